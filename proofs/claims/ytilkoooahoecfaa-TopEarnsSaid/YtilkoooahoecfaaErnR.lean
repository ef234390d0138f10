/- Walks: route: within, all[T], slices.ContainsFunc, slices.IndexFunc at each type. (Printed by mk_ernr.py.) -/
import Derived.Test.YtilkoooahoecfaaErnE
namespace Go.Er
open Go.RowKit Go.Bs
def valR (x : Int × Int) : Value := .agg #[.int .i64 x.1, .int .i64 x.2]
def StE.val (x : StE) : Value := .agg #[.int .i64 x.town, .int .i64 x.fst, .int .i64 x.lst]
/-- what is asked of a function value that a function is handed -/
def PredR {α : Type} (P : Program) (g : Nat) (fa lb : Array Value) (encv : α → Value) (p : α → Bool) (w : World) (l : List α) : Prop :=
  ∀ (W : World) (x : α), x ∈ l → Below w.heap.size w W → Calls P g (fa ++ #[encv x] ++ lb) W fun e w' => e = .returned (.bool (p x)) ∧ Below W.heap.size W w'
theorem PredR.later {α : Type} {P : Program} {g : Nat} {fa lb : Array Value} {encv : α → Value} {p : α → Bool} {w W : World} {l : List α} (h : PredR P g fa lb encv p w l) (hb : Below w.heap.size w W) : PredR P g fa lb encv p W l :=
  fun W' x hx hb' => h W' x hx (ext_trans hb hb')
end Go.Er
namespace Go.Bs
open Go.RowKit
theorem Cells.at9 {α : Type} {w : World} {A : Option Addr} {l : List α} {enc : α → List Value} (h : Cells w A 9 enc l) {k : Nat} (hk : k < l.length) {v0 v1 v2 v3 v4 v5 v6 v7 v8 : Value} (he : enc l[k] = [v0, v1, v2, v3, v4, v5, v6, v7, v8]) :
    ∃ b off, A = some ⟨b, off, none⟩ ∧ b < w.heap.size ∧ w.cell? ⟨b, off + k * 9, none⟩ = some v0 ∧ w.cell? ⟨b, off + k * 9 + 1, none⟩ = some v1 ∧ w.cell? ⟨b, off + k * 9 + 2, none⟩ = some v2 ∧ w.cell? ⟨b, off + k * 9 + 3, none⟩ = some v3 ∧ w.cell? ⟨b, off + k * 9 + 4, none⟩ = some v4 ∧ w.cell? ⟨b, off + k * 9 + 5, none⟩ = some v5 ∧ w.cell? ⟨b, off + k * 9 + 6, none⟩ = some v6 ∧ w.cell? ⟨b, off + k * 9 + 7, none⟩ = some v7 ∧ w.cell? ⟨b, off + k * 9 + 8, none⟩ = some v8 := by
  obtain ⟨b, off, hA, hc⟩ := h.at hk
  rw [he] at hc
  have h0 := hc 0 v0 rfl
  exact ⟨b, off, hA, cell_lt h0, h0, hc 1 v1 rfl, hc 2 v2 rfl, hc 3 v3 rfl, hc 4 v4 rfl, hc 5 v5 rfl, hc 6 v6 rfl, hc 7 v7 rfl, hc 8 v8 rfl⟩
end Go.Bs
namespace Go.Proofs.Ytilkoooahoecfaa.Er
open Go.RowKit Go.Bs Go.Pl Go.Sort Go.Er
theorem rwithin_any (n lo hi : Int) (w : World) :
    Calls Try.prog 31 #[.int .i64 n, .int .i64 lo, .int .i64 hi] w fun e w' => e = .returned (.bool (btwE n lo hi)) ∧ w = w' := by
  unfold btwE
  generalize hres : decide (lo ≤ n ∧ n ≤ hi) = res
  have Hres := Lib.hid hres
  clear hres
  by_cases h : lo ≤ n
  · go_enter Try.func31, Try.ntmps31
    go_wp2
    go_ret
    exact ⟨ret_congr (bool_congr (by rw [← Hres.out]; simp [h])), rfl⟩
  · go_enter Try.func31, Try.ntmps31
    go_wp2
    go_ret
    exact ⟨ret_congr (bool_congr (by rw [← Hres.out]; simp; omega)), rfl⟩
theorem rwithin_t {n lo hi : Int} (h : lo ≤ n ∧ n ≤ hi) (w : World) : Calls Try.prog 31 #[.int .i64 n, .int .i64 lo, .int .i64 hi] w fun e w' => e = .returned (.bool true) ∧ w = w' := by
  have := rwithin_any n lo hi w
  rwa [show btwE n lo hi = true from decide_eq_true h] at this

set_option maxHeartbeats 800000 in
theorem index_rng (g : Nat) (fa lb : Array Value) (p : (Int × Int) → Bool) (A : Option Addr) (n cap : Nat) (l : List (Int × Int)) (w : World) (eg : Enters Try.prog g) (hn : l.length = n) (hm : n ≤ 9223372036854775807) (hd : Cells w A 2 encR l)
    (hp : PredR Try.prog g fa lb valR p w l) :
    Calls Try.prog 104 #[.slice A n cap, .func (.func g) fa lb] w fun e w' => e = .returned (.int .i64 (idxF p l)) ∧ Below w.heap.size w w' := by
  have Hn := Lib.hid hn
  clear hn
  generalize hres : idxF p l = res
  have Hres := Lib.hid hres
  clear hres
  unfold Enters at eg
  go_enter Try.func104, Try.ntmps104
  go_wp2
  go_loopw [5, 8] (fun _ t wr => ∃ (k : Nat), k ≤ n ∧ t = .int .i64 k ∧ Hid (∀ x ∈ l.take k, p x = false) ∧ Below w.heap.size w wr) (fun _ t _ => n - (intOf t).toNat)
  case atStart => exact ⟨0, by omega, rfl, Lib.hid (by simp), Below.refl _ _⟩
  case round =>
    obtain ⟨k, hk, rfl, Hk, hb⟩ := hrel
    by_cases hlt : k < n
    · have hk1 : k < l.length := by rw [Hn.out]; exact hlt
      obtain ⟨b, off, rfl, hbl, c0, c1⟩ := (hd.ext hb).at2 hk1 rfl
      have hc := hp wr l[k] (List.getElem_mem _) hb
      have hz : (0 : Int) ≤ k := by omega
      cases hq : p l[k]
      · rw [hq] at hc
        have Hq := Lib.hid hq
        have Hc := Lib.hid hc
        clear hc hq hp
        go_wp2_with fail
        refine Hc.out.mono ?_; rintro e w1 ⟨rfl, hb1⟩
        go_wp2
        go_roundw
        case rel => exact ⟨k + 1, by omega, by go_num, Lib.hid (fun x hx => by
          rw [List.take_succ_eq_append_getElem hk1] at hx
          rcases List.mem_append.1 hx with hx | hx
          · exact Hk.out x hx
          · simp at hx; rw [hx]; exact Hq.out), ext_trans hb hb1⟩
        case measure => simp [intOf]; omega
      · rw [hq] at hc
        have Hq := Lib.hid hq
        have Hc := Lib.hid hc
        clear hc hq hp
        go_wp2_with fail
        refine Hc.out.mono ?_; rintro e w1 ⟨rfl, hb1⟩
        go_wp2
        go_ret
        exact ⟨ret_congr (int_congr (by rw [← Hres.out, idxF_hit hk1 Hq.out Hk.out])), ext_trans hb hb1⟩
    · go_wp2
      go_ret
      exact ⟨ret_congr (int_congr (by rw [← Hres.out, idxF_miss (fun x hx => Hk.out x (by rw [List.take_of_length_le (by rw [Hn.out]; omega)]; exact hx))])), hb⟩

theorem contains_rng (g : Nat) (fa lb : Array Value) (p : (Int × Int) → Bool) (A : Option Addr) (n cap : Nat) (l : List (Int × Int)) (w : World) (eg : Enters Try.prog g) (hn : l.length = n) (hm : n ≤ 9223372036854775807) (hd : Cells w A 2 encR l)
    (hp : PredR Try.prog g fa lb valR p w l) :
    Calls Try.prog 60 #[.slice A n cap, .func (.func g) fa lb] w fun e w' => e = .returned (.bool (l.any p)) ∧ Below w.heap.size w w' := by
  have hc := index_rng g fa lb p A n cap l w eg hn hm hd hp
  rw [← idxF_nonneg]
  generalize idxF p l = x at *
  have Hc := Lib.hid hc
  clear hc hp hn hd eg
  go_enter Try.func60, Try.ntmps60
  go_wp2_with fail
  refine Hc.out.mono ?_; rintro e w1 ⟨rfl, hb1⟩
  go_wp2
  go_ret
  exact ⟨rfl, hb1⟩

theorem not_rng (g : Nat) (fa lb : Array Value) (p : (Int × Int) → Bool) (l : List (Int × Int)) (w : World) (B : Nat) (eg : Enters Try.prog g) (hB : w.cell? ⟨B, 0, none⟩ = some (.func (.func g) fa lb))
    (hp : PredR Try.prog g fa lb valR p w l) : PredR Try.prog 128 #[] #[.pointer (some ⟨B, 0, none⟩)] valR (fun x => !p x) w l := by
  intro W x hx hb
  have hB' := cell_ext hB hb
  have hlt := cell_lt hB'
  unfold Enters at eg
  have hc := hp _ x hx (ext_trans hb (ext_alloc W (.cells #[.int .i64 x.1, .int .i64 x.2] 95)))
  show Calls Try.prog 128 #[.agg #[.int .i64 x.1, .int .i64 x.2], .pointer (some ⟨B, 0, none⟩)] W fun e w' => e = .returned (.bool (!p x)) ∧ Below W.heap.size W w'
  generalize p x = q at *
  have Hc := Lib.hid hc
  clear hc hp hB
  go_enter Try.func128, Try.ntmps128
  go_wp2_with fail
  refine Hc.out.mono ?_; rintro e w1 ⟨rfl, hb1⟩
  go_wp2
  go_ret
  exact ⟨rfl, ext_trans (ext_alloc _ _) hb1⟩

theorem all_rng (g : Nat) (fa lb : Array Value) (p : (Int × Int) → Bool) (A : Option Addr) (n cap : Nat) (l : List (Int × Int)) (w : World) (eg : Enters Try.prog g) (hn : l.length = n) (hm : n ≤ 9223372036854775807) (hd : Cells w A 2 encR l)
    (hp : PredR Try.prog g fa lb valR p w l) :
    Calls Try.prog 100 #[.slice A n cap, .func (.func g) fa lb] w fun e w' => e = .returned (.bool (l.all p)) ∧ Below w.heap.size w w' := by
  have hb0 := ext_alloc w (.cells #[.func (.func g) fa lb] 142)
  have hc := contains_rng 128 #[] #[.pointer (some ⟨w.heap.size, 0, none⟩)] (fun x => !p x) A n cap l _ (enters_of Try.func128 (by kernel_rfl) rfl) hn hm (hd.ext hb0) (not_rng g fa lb p l _ w.heap.size eg (by simp) (hp.later hb0))
  rw [← any_not]
  generalize (l.any fun x => !p x) = q at *
  have Hc := Lib.hid hc
  clear hc hp hn hd eg hb0
  go_enter Try.func100, Try.ntmps100
  go_wp2_with fail
  refine Hc.out.mono ?_; rintro e w1 ⟨rfl, hb1⟩
  go_wp2
  go_ret
  exact ⟨rfl, ext_trans (ext_alloc _ _) hb1⟩

set_option maxHeartbeats 800000 in
theorem index_leg (g : Nat) (fa lb : Array Value) (p : (Int × Int) → Bool) (A : Option Addr) (n cap : Nat) (l : List (Int × Int)) (w : World) (eg : Enters Try.prog g) (hn : l.length = n) (hm : n ≤ 9223372036854775807) (hd : Cells w A 2 encR l)
    (hp : PredR Try.prog g fa lb valR p w l) :
    Calls Try.prog 129 #[.slice A n cap, .func (.func g) fa lb] w fun e w' => e = .returned (.int .i64 (idxF p l)) ∧ Below w.heap.size w w' := by
  have Hn := Lib.hid hn
  clear hn
  generalize hres : idxF p l = res
  have Hres := Lib.hid hres
  clear hres
  unfold Enters at eg
  go_enter Try.func129, Try.ntmps129
  go_wp2
  go_loopw [5, 8] (fun _ t wr => ∃ (k : Nat), k ≤ n ∧ t = .int .i64 k ∧ Hid (∀ x ∈ l.take k, p x = false) ∧ Below w.heap.size w wr) (fun _ t _ => n - (intOf t).toNat)
  case atStart => exact ⟨0, by omega, rfl, Lib.hid (by simp), Below.refl _ _⟩
  case round =>
    obtain ⟨k, hk, rfl, Hk, hb⟩ := hrel
    by_cases hlt : k < n
    · have hk1 : k < l.length := by rw [Hn.out]; exact hlt
      obtain ⟨b, off, rfl, hbl, c0, c1⟩ := (hd.ext hb).at2 hk1 rfl
      have hc := hp wr l[k] (List.getElem_mem _) hb
      have hz : (0 : Int) ≤ k := by omega
      cases hq : p l[k]
      · rw [hq] at hc
        have Hq := Lib.hid hq
        have Hc := Lib.hid hc
        clear hc hq hp
        go_wp2_with fail
        refine Hc.out.mono ?_; rintro e w1 ⟨rfl, hb1⟩
        go_wp2
        go_roundw
        case rel => exact ⟨k + 1, by omega, by go_num, Lib.hid (fun x hx => by
          rw [List.take_succ_eq_append_getElem hk1] at hx
          rcases List.mem_append.1 hx with hx | hx
          · exact Hk.out x hx
          · simp at hx; rw [hx]; exact Hq.out), ext_trans hb hb1⟩
        case measure => simp [intOf]; omega
      · rw [hq] at hc
        have Hq := Lib.hid hq
        have Hc := Lib.hid hc
        clear hc hq hp
        go_wp2_with fail
        refine Hc.out.mono ?_; rintro e w1 ⟨rfl, hb1⟩
        go_wp2
        go_ret
        exact ⟨ret_congr (int_congr (by rw [← Hres.out, idxF_hit hk1 Hq.out Hk.out])), ext_trans hb hb1⟩
    · go_wp2
      go_ret
      exact ⟨ret_congr (int_congr (by rw [← Hres.out, idxF_miss (fun x hx => Hk.out x (by rw [List.take_of_length_le (by rw [Hn.out]; omega)]; exact hx))])), hb⟩

theorem contains_leg (g : Nat) (fa lb : Array Value) (p : (Int × Int) → Bool) (A : Option Addr) (n cap : Nat) (l : List (Int × Int)) (w : World) (eg : Enters Try.prog g) (hn : l.length = n) (hm : n ≤ 9223372036854775807) (hd : Cells w A 2 encR l)
    (hp : PredR Try.prog g fa lb valR p w l) :
    Calls Try.prog 102 #[.slice A n cap, .func (.func g) fa lb] w fun e w' => e = .returned (.bool (l.any p)) ∧ Below w.heap.size w w' := by
  have hc := index_leg g fa lb p A n cap l w eg hn hm hd hp
  rw [← idxF_nonneg]
  generalize idxF p l = x at *
  have Hc := Lib.hid hc
  clear hc hp hn hd eg
  go_enter Try.func102, Try.ntmps102
  go_wp2_with fail
  refine Hc.out.mono ?_; rintro e w1 ⟨rfl, hb1⟩
  go_wp2
  go_ret
  exact ⟨rfl, hb1⟩

theorem not_leg (g : Nat) (fa lb : Array Value) (p : (Int × Int) → Bool) (l : List (Int × Int)) (w : World) (B : Nat) (eg : Enters Try.prog g) (hB : w.cell? ⟨B, 0, none⟩ = some (.func (.func g) fa lb))
    (hp : PredR Try.prog g fa lb valR p w l) : PredR Try.prog 103 #[] #[.pointer (some ⟨B, 0, none⟩)] valR (fun x => !p x) w l := by
  intro W x hx hb
  have hB' := cell_ext hB hb
  have hlt := cell_lt hB'
  unfold Enters at eg
  have hc := hp _ x hx (ext_trans hb (ext_alloc W (.cells #[.int .i64 x.1, .int .i64 x.2] 99)))
  show Calls Try.prog 103 #[.agg #[.int .i64 x.1, .int .i64 x.2], .pointer (some ⟨B, 0, none⟩)] W fun e w' => e = .returned (.bool (!p x)) ∧ Below W.heap.size W w'
  generalize p x = q at *
  have Hc := Lib.hid hc
  clear hc hp hB
  go_enter Try.func103, Try.ntmps103
  go_wp2_with fail
  refine Hc.out.mono ?_; rintro e w1 ⟨rfl, hb1⟩
  go_wp2
  go_ret
  exact ⟨rfl, ext_trans (ext_alloc _ _) hb1⟩

theorem all_leg (g : Nat) (fa lb : Array Value) (p : (Int × Int) → Bool) (A : Option Addr) (n cap : Nat) (l : List (Int × Int)) (w : World) (eg : Enters Try.prog g) (hn : l.length = n) (hm : n ≤ 9223372036854775807) (hd : Cells w A 2 encR l)
    (hp : PredR Try.prog g fa lb valR p w l) :
    Calls Try.prog 58 #[.slice A n cap, .func (.func g) fa lb] w fun e w' => e = .returned (.bool (l.all p)) ∧ Below w.heap.size w w' := by
  have hb0 := ext_alloc w (.cells #[.func (.func g) fa lb] 140)
  have hc := contains_leg 103 #[] #[.pointer (some ⟨w.heap.size, 0, none⟩)] (fun x => !p x) A n cap l _ (enters_of Try.func103 (by kernel_rfl) rfl) hn hm (hd.ext hb0) (not_leg g fa lb p l _ w.heap.size eg (by simp) (hp.later hb0))
  rw [← any_not]
  generalize (l.any fun x => !p x) = q at *
  have Hc := Lib.hid hc
  clear hc hp hn hd eg hb0
  go_enter Try.func58, Try.ntmps58
  go_wp2_with fail
  refine Hc.out.mono ?_; rintro e w1 ⟨rfl, hb1⟩
  go_wp2
  go_ret
  exact ⟨rfl, ext_trans (ext_alloc _ _) hb1⟩

set_option maxHeartbeats 800000 in
theorem index_tw (g : Nat) (fa lb : Array Value) (p : (TwV) → Bool) (A : Option Addr) (n cap : Nat) (l : List (TwV)) (w : World) (eg : Enters Try.prog g) (hn : l.length = n) (hm : n ≤ 9223372036854775807) (hd : Cells w A 9 TwV.enc l)
    (hp : PredR Try.prog g fa lb TwV.val p w l) :
    Calls Try.prog 127 #[.slice A n cap, .func (.func g) fa lb] w fun e w' => e = .returned (.int .i64 (idxF p l)) ∧ Below w.heap.size w w' := by
  have Hn := Lib.hid hn
  clear hn
  generalize hres : idxF p l = res
  have Hres := Lib.hid hres
  clear hres
  unfold Enters at eg
  go_enter Try.func127, Try.ntmps127
  go_wp2
  go_loopw [5, 8] (fun _ t wr => ∃ (k : Nat), k ≤ n ∧ t = .int .i64 k ∧ Hid (∀ x ∈ l.take k, p x = false) ∧ Below w.heap.size w wr) (fun _ t _ => n - (intOf t).toNat)
  case atStart => exact ⟨0, by omega, rfl, Lib.hid (by simp), Below.refl _ _⟩
  case round =>
    obtain ⟨k, hk, rfl, Hk, hb⟩ := hrel
    by_cases hlt : k < n
    · have hk1 : k < l.length := by rw [Hn.out]; exact hlt
      obtain ⟨b, off, rfl, hbl, c0, c1, c2, c3, c4, c5, c6, c7, c8⟩ := (hd.ext hb).at9 hk1 rfl
      have hc := hp wr l[k] (List.getElem_mem _) hb
      have hz : (0 : Int) ≤ k := by omega
      cases hq : p l[k]
      · rw [hq] at hc
        have Hq := Lib.hid hq
        have Hc := Lib.hid hc
        clear hc hq hp
        go_wp2_with fail
        refine Hc.out.mono ?_; rintro e w1 ⟨rfl, hb1⟩
        go_wp2
        go_roundw
        case rel => exact ⟨k + 1, by omega, by go_num, Lib.hid (fun x hx => by
          rw [List.take_succ_eq_append_getElem hk1] at hx
          rcases List.mem_append.1 hx with hx | hx
          · exact Hk.out x hx
          · simp at hx; rw [hx]; exact Hq.out), ext_trans hb hb1⟩
        case measure => simp [intOf]; omega
      · rw [hq] at hc
        have Hq := Lib.hid hq
        have Hc := Lib.hid hc
        clear hc hq hp
        go_wp2_with fail
        refine Hc.out.mono ?_; rintro e w1 ⟨rfl, hb1⟩
        go_wp2
        go_ret
        exact ⟨ret_congr (int_congr (by rw [← Hres.out, idxF_hit hk1 Hq.out Hk.out])), ext_trans hb hb1⟩
    · go_wp2
      go_ret
      exact ⟨ret_congr (int_congr (by rw [← Hres.out, idxF_miss (fun x hx => Hk.out x (by rw [List.take_of_length_le (by rw [Hn.out]; omega)]; exact hx))])), hb⟩

theorem contains_tw (g : Nat) (fa lb : Array Value) (p : (TwV) → Bool) (A : Option Addr) (n cap : Nat) (l : List (TwV)) (w : World) (eg : Enters Try.prog g) (hn : l.length = n) (hm : n ≤ 9223372036854775807) (hd : Cells w A 9 TwV.enc l)
    (hp : PredR Try.prog g fa lb TwV.val p w l) :
    Calls Try.prog 96 #[.slice A n cap, .func (.func g) fa lb] w fun e w' => e = .returned (.bool (l.any p)) ∧ Below w.heap.size w w' := by
  have hc := index_tw g fa lb p A n cap l w eg hn hm hd hp
  rw [← idxF_nonneg]
  generalize idxF p l = x at *
  have Hc := Lib.hid hc
  clear hc hp hn hd eg
  go_enter Try.func96, Try.ntmps96
  go_wp2_with fail
  refine Hc.out.mono ?_; rintro e w1 ⟨rfl, hb1⟩
  go_wp2
  go_ret
  exact ⟨rfl, hb1⟩

theorem not_tw (g : Nat) (fa lb : Array Value) (p : (TwV) → Bool) (l : List (TwV)) (w : World) (B : Nat) (eg : Enters Try.prog g) (hB : w.cell? ⟨B, 0, none⟩ = some (.func (.func g) fa lb))
    (hp : PredR Try.prog g fa lb TwV.val p w l) : PredR Try.prog 97 #[] #[.pointer (some ⟨B, 0, none⟩)] TwV.val (fun x => !p x) w l := by
  intro W x hx hb
  have hB' := cell_ext hB hb
  have hlt := cell_lt hB'
  unfold Enters at eg
  have hc := hp _ x hx (ext_trans hb (ext_alloc W (.cells #[.slice x.O x.x.opn.length x.co, .int .i64 x.x.slo, .int .i64 x.x.shi, .int .i64 x.x.pay, .int .i64 x.x.lot, .int .i64 x.x.rent, .slice x.R x.x.riv.length x.cr, .int .i64 x.x.cold, .int .i64 x.x.cut] 97)))
  show Calls Try.prog 97 #[.agg #[.slice x.O x.x.opn.length x.co, .int .i64 x.x.slo, .int .i64 x.x.shi, .int .i64 x.x.pay, .int .i64 x.x.lot, .int .i64 x.x.rent, .slice x.R x.x.riv.length x.cr, .int .i64 x.x.cold, .int .i64 x.x.cut], .pointer (some ⟨B, 0, none⟩)] W fun e w' => e = .returned (.bool (!p x)) ∧ Below W.heap.size W w'
  generalize p x = q at *
  have Hc := Lib.hid hc
  clear hc hp hB
  go_enter Try.func97, Try.ntmps97
  go_wp2_with fail
  refine Hc.out.mono ?_; rintro e w1 ⟨rfl, hb1⟩
  go_wp2
  go_ret
  exact ⟨rfl, ext_trans (ext_alloc _ _) hb1⟩

theorem all_tw (g : Nat) (fa lb : Array Value) (p : (TwV) → Bool) (A : Option Addr) (n cap : Nat) (l : List (TwV)) (w : World) (eg : Enters Try.prog g) (hn : l.length = n) (hm : n ≤ 9223372036854775807) (hd : Cells w A 9 TwV.enc l)
    (hp : PredR Try.prog g fa lb TwV.val p w l) :
    Calls Try.prog 55 #[.slice A n cap, .func (.func g) fa lb] w fun e w' => e = .returned (.bool (l.all p)) ∧ Below w.heap.size w w' := by
  have hb0 := ext_alloc w (.cells #[.func (.func g) fa lb] 138)
  have hc := contains_tw 97 #[] #[.pointer (some ⟨w.heap.size, 0, none⟩)] (fun x => !p x) A n cap l _ (enters_of Try.func97 (by kernel_rfl) rfl) hn hm (hd.ext hb0) (not_tw g fa lb p l _ w.heap.size eg (by simp) (hp.later hb0))
  rw [← any_not]
  generalize (l.any fun x => !p x) = q at *
  have Hc := Lib.hid hc
  clear hc hp hn hd eg hb0
  go_enter Try.func55, Try.ntmps55
  go_wp2_with fail
  refine Hc.out.mono ?_; rintro e w1 ⟨rfl, hb1⟩
  go_wp2
  go_ret
  exact ⟨rfl, ext_trans (ext_alloc _ _) hb1⟩

set_option maxHeartbeats 800000 in
theorem index_num (g : Nat) (fa lb : Array Value) (p : (Int) → Bool) (A : Option Addr) (n cap : Nat) (l : List (Int)) (w : World) (eg : Enters Try.prog g) (hn : l.length = n) (hm : n ≤ 9223372036854775807) (hd : Cells w A 1 encI l)
    (hp : PredR Try.prog g fa lb (Value.int .i64) p w l) :
    Calls Try.prog 120 #[.slice A n cap, .func (.func g) fa lb] w fun e w' => e = .returned (.int .i64 (idxF p l)) ∧ Below w.heap.size w w' := by
  have Hn := Lib.hid hn
  clear hn
  generalize hres : idxF p l = res
  have Hres := Lib.hid hres
  clear hres
  unfold Enters at eg
  go_enter Try.func120, Try.ntmps120
  go_wp2
  go_loopw [5, 8] (fun _ t wr => ∃ (k : Nat), k ≤ n ∧ t = .int .i64 k ∧ Hid (∀ x ∈ l.take k, p x = false) ∧ Below w.heap.size w wr) (fun _ t _ => n - (intOf t).toNat)
  case atStart => exact ⟨0, by omega, rfl, Lib.hid (by simp), Below.refl _ _⟩
  case round =>
    obtain ⟨k, hk, rfl, Hk, hb⟩ := hrel
    by_cases hlt : k < n
    · have hk1 : k < l.length := by rw [Hn.out]; exact hlt
      obtain ⟨b, off, rfl, hbl, c0⟩ := (hd.ext hb).at1 hk1 rfl
      have hc := hp wr l[k] (List.getElem_mem _) hb
      have hz : (0 : Int) ≤ k := by omega
      cases hq : p l[k]
      · rw [hq] at hc
        have Hq := Lib.hid hq
        have Hc := Lib.hid hc
        clear hc hq hp
        go_wp2_with fail
        refine Hc.out.mono ?_; rintro e w1 ⟨rfl, hb1⟩
        go_wp2
        go_roundw
        case rel => exact ⟨k + 1, by omega, by go_num, Lib.hid (fun x hx => by
          rw [List.take_succ_eq_append_getElem hk1] at hx
          rcases List.mem_append.1 hx with hx | hx
          · exact Hk.out x hx
          · simp at hx; rw [hx]; exact Hq.out), ext_trans hb hb1⟩
        case measure => simp [intOf]; omega
      · rw [hq] at hc
        have Hq := Lib.hid hq
        have Hc := Lib.hid hc
        clear hc hq hp
        go_wp2_with fail
        refine Hc.out.mono ?_; rintro e w1 ⟨rfl, hb1⟩
        go_wp2
        go_ret
        exact ⟨ret_congr (int_congr (by rw [← Hres.out, idxF_hit hk1 Hq.out Hk.out])), ext_trans hb hb1⟩
    · go_wp2
      go_ret
      exact ⟨ret_congr (int_congr (by rw [← Hres.out, idxF_miss (fun x hx => Hk.out x (by rw [List.take_of_length_le (by rw [Hn.out]; omega)]; exact hx))])), hb⟩

theorem contains_num (g : Nat) (fa lb : Array Value) (p : (Int) → Bool) (A : Option Addr) (n cap : Nat) (l : List (Int)) (w : World) (eg : Enters Try.prog g) (hn : l.length = n) (hm : n ≤ 9223372036854775807) (hd : Cells w A 1 encI l)
    (hp : PredR Try.prog g fa lb (Value.int .i64) p w l) :
    Calls Try.prog 77 #[.slice A n cap, .func (.func g) fa lb] w fun e w' => e = .returned (.bool (l.any p)) ∧ Below w.heap.size w w' := by
  have hc := index_num g fa lb p A n cap l w eg hn hm hd hp
  rw [← idxF_nonneg]
  generalize idxF p l = x at *
  have Hc := Lib.hid hc
  clear hc hp hn hd eg
  go_enter Try.func77, Try.ntmps77
  go_wp2_with fail
  refine Hc.out.mono ?_; rintro e w1 ⟨rfl, hb1⟩
  go_wp2
  go_ret
  exact ⟨rfl, hb1⟩

theorem not_num (g : Nat) (fa lb : Array Value) (p : (Int) → Bool) (l : List (Int)) (w : World) (B : Nat) (eg : Enters Try.prog g) (hB : w.cell? ⟨B, 0, none⟩ = some (.func (.func g) fa lb))
    (hp : PredR Try.prog g fa lb (Value.int .i64) p w l) : PredR Try.prog 126 #[] #[.pointer (some ⟨B, 0, none⟩)] (Value.int .i64) (fun x => !p x) w l := by
  intro W x hx hb
  have hB' := cell_ext hB hb
  have hlt := cell_lt hB'
  unfold Enters at eg
  have hc := hp W x hx hb
  show Calls Try.prog 126 #[.int .i64 x, .pointer (some ⟨B, 0, none⟩)] W fun e w' => e = .returned (.bool (!p x)) ∧ Below W.heap.size W w'
  generalize p x = q at *
  have Hc := Lib.hid hc
  clear hc hp hB
  go_enter Try.func126, Try.ntmps126
  go_wp2_with fail
  refine Hc.out.mono ?_; rintro e w1 ⟨rfl, hb1⟩
  go_wp2
  go_ret
  exact ⟨rfl, hb1⟩

theorem all_num (g : Nat) (fa lb : Array Value) (p : (Int) → Bool) (A : Option Addr) (n cap : Nat) (l : List (Int)) (w : World) (eg : Enters Try.prog g) (hn : l.length = n) (hm : n ≤ 9223372036854775807) (hd : Cells w A 1 encI l)
    (hp : PredR Try.prog g fa lb (Value.int .i64) p w l) :
    Calls Try.prog 94 #[.slice A n cap, .func (.func g) fa lb] w fun e w' => e = .returned (.bool (l.all p)) ∧ Below w.heap.size w w' := by
  have hb0 := ext_alloc w (.cells #[.func (.func g) fa lb] 105)
  have hc := contains_num 126 #[] #[.pointer (some ⟨w.heap.size, 0, none⟩)] (fun x => !p x) A n cap l _ (enters_of Try.func126 (by kernel_rfl) rfl) hn hm (hd.ext hb0) (not_num g fa lb p l _ w.heap.size eg (by simp) (hp.later hb0))
  rw [← any_not]
  generalize (l.any fun x => !p x) = q at *
  have Hc := Lib.hid hc
  clear hc hp hn hd eg hb0
  go_enter Try.func94, Try.ntmps94
  go_wp2_with fail
  refine Hc.out.mono ?_; rintro e w1 ⟨rfl, hb1⟩
  go_wp2
  go_ret
  exact ⟨rfl, ext_trans (ext_alloc _ _) hb1⟩

set_option maxHeartbeats 800000 in
theorem index_stop (g : Nat) (fa lb : Array Value) (p : (StE) → Bool) (A : Option Addr) (n cap : Nat) (l : List (StE)) (w : World) (eg : Enters Try.prog g) (hn : l.length = n) (hm : n ≤ 9223372036854775807) (hd : Cells w A 3 StE.enc l)
    (hp : PredR Try.prog g fa lb StE.val p w l) :
    Calls Try.prog 125 #[.slice A n cap, .func (.func g) fa lb] w fun e w' => e = .returned (.int .i64 (idxF p l)) ∧ Below w.heap.size w w' := by
  have Hn := Lib.hid hn
  clear hn
  generalize hres : idxF p l = res
  have Hres := Lib.hid hres
  clear hres
  unfold Enters at eg
  go_enter Try.func125, Try.ntmps125
  go_wp2
  go_loopw [5, 8] (fun _ t wr => ∃ (k : Nat), k ≤ n ∧ t = .int .i64 k ∧ Hid (∀ x ∈ l.take k, p x = false) ∧ Below w.heap.size w wr) (fun _ t _ => n - (intOf t).toNat)
  case atStart => exact ⟨0, by omega, rfl, Lib.hid (by simp), Below.refl _ _⟩
  case round =>
    obtain ⟨k, hk, rfl, Hk, hb⟩ := hrel
    by_cases hlt : k < n
    · have hk1 : k < l.length := by rw [Hn.out]; exact hlt
      obtain ⟨b, off, rfl, hbl, c0, c1, c2⟩ := (hd.ext hb).at3 hk1 rfl
      have hc := hp wr l[k] (List.getElem_mem _) hb
      have hz : (0 : Int) ≤ k := by omega
      cases hq : p l[k]
      · rw [hq] at hc
        have Hq := Lib.hid hq
        have Hc := Lib.hid hc
        clear hc hq hp
        go_wp2_with fail
        refine Hc.out.mono ?_; rintro e w1 ⟨rfl, hb1⟩
        go_wp2
        go_roundw
        case rel => exact ⟨k + 1, by omega, by go_num, Lib.hid (fun x hx => by
          rw [List.take_succ_eq_append_getElem hk1] at hx
          rcases List.mem_append.1 hx with hx | hx
          · exact Hk.out x hx
          · simp at hx; rw [hx]; exact Hq.out), ext_trans hb hb1⟩
        case measure => simp [intOf]; omega
      · rw [hq] at hc
        have Hq := Lib.hid hq
        have Hc := Lib.hid hc
        clear hc hq hp
        go_wp2_with fail
        refine Hc.out.mono ?_; rintro e w1 ⟨rfl, hb1⟩
        go_wp2
        go_ret
        exact ⟨ret_congr (int_congr (by rw [← Hres.out, idxF_hit hk1 Hq.out Hk.out])), ext_trans hb hb1⟩
    · go_wp2
      go_ret
      exact ⟨ret_congr (int_congr (by rw [← Hres.out, idxF_miss (fun x hx => Hk.out x (by rw [List.take_of_length_le (by rw [Hn.out]; omega)]; exact hx))])), hb⟩

theorem contains_stop (g : Nat) (fa lb : Array Value) (p : (StE) → Bool) (A : Option Addr) (n cap : Nat) (l : List (StE)) (w : World) (eg : Enters Try.prog g) (hn : l.length = n) (hm : n ≤ 9223372036854775807) (hd : Cells w A 3 StE.enc l)
    (hp : PredR Try.prog g fa lb StE.val p w l) :
    Calls Try.prog 89 #[.slice A n cap, .func (.func g) fa lb] w fun e w' => e = .returned (.bool (l.any p)) ∧ Below w.heap.size w w' := by
  have hc := index_stop g fa lb p A n cap l w eg hn hm hd hp
  rw [← idxF_nonneg]
  generalize idxF p l = x at *
  have Hc := Lib.hid hc
  clear hc hp hn hd eg
  go_enter Try.func89, Try.ntmps89
  go_wp2_with fail
  refine Hc.out.mono ?_; rintro e w1 ⟨rfl, hb1⟩
  go_wp2
  go_ret
  exact ⟨rfl, hb1⟩

end Go.Proofs.Ytilkoooahoecfaa.Er

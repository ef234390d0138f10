/- Walks: all, slices.ContainsFunc, slices.IndexFunc at each element type. (Printed by mk_prga.py.) -/
import Derived.Test.YtcnidhcdkbfpcaaPrgW
namespace Go.Proofs.Ytcnidhcdkbfpcaa
open Go.RowKit Go.Bs Go.Pg Go.Pl Go.Sort

set_option maxHeartbeats 800000 in
theorem index_int (g : Nat) (fa lb : Array Value) (p : (Int) → Bool) (A : Option Addr) (n cap : Nat) (l : List (Int)) (w : World) (eg : Enters Try.prog g) (hn : l.length = n) (hm : n ≤ 9223372036854775807) (hd : Cells w A 1 encI l)
    (hp : PredF Try.prog g fa lb (Value.int .i64) p w l) :
    Calls Try.prog 104 #[.slice A n cap, .func (.func g) fa lb] w fun e w' => e = .returned (.int .i64 (idxF p l)) ∧ Below w.heap.size w w' := by
  have Hn := Lib.hid hn
  clear hn
  generalize hres : idxF p l = res
  have Hres := Lib.hid hres
  clear hres
  unfold Enters at eg
  go_enter Try.func104, Try.ntmps104
  go_wp2
  go_loopw [5, 8] (fun _ t wr => ∃ (k : Nat), k ≤ n ∧ t = .int .i64 k ∧ Hid (∀ x ∈ l.take k, p x = false) ∧ Below w.heap.size w wr) (fun _ t _ => n - (intOf t).toNat)
  case atStart => exact ⟨0, by omega, rfl, Lib.hid (by simp), Below.refl _ _⟩
  case round =>
    obtain ⟨k, hk, rfl, Hk, hb⟩ := hrel
    by_cases hlt : k < n
    · have hk1 : k < l.length := by rw [Hn.out]; exact hlt
      obtain ⟨b, off, rfl, hbl, c0⟩ := (hd.ext hb).at1 hk1 rfl
      have hc := hp wr l[k] (List.getElem_mem _) hb
      have hz : (0 : Int) ≤ k := by omega
      cases hq : p l[k]
      · rw [hq] at hc
        have Hq := Lib.hid hq
        have Hc := Lib.hid hc
        clear hc hq hp
        go_wp2_with fail
        refine Hc.out.mono ?_; rintro e w1 ⟨rfl, hb1⟩
        go_wp2
        go_roundw
        case rel => exact ⟨k + 1, by omega, by go_num, Lib.hid (fun x hx => by
          rw [List.take_succ_eq_append_getElem hk1] at hx
          rcases List.mem_append.1 hx with hx | hx
          · exact Hk.out x hx
          · simp at hx; rw [hx]; exact Hq.out), ext_trans hb hb1⟩
        case measure => simp [intOf]; omega
      · rw [hq] at hc
        have Hq := Lib.hid hq
        have Hc := Lib.hid hc
        clear hc hq hp
        go_wp2_with fail
        refine Hc.out.mono ?_; rintro e w1 ⟨rfl, hb1⟩
        go_wp2
        go_ret
        exact ⟨ret_congr (int_congr (by rw [← Hres.out, idxF_hit hk1 Hq.out Hk.out])), ext_trans hb hb1⟩
    · go_wp2
      go_ret
      exact ⟨ret_congr (int_congr (by rw [← Hres.out, idxF_miss (fun x hx => Hk.out x (by rw [List.take_of_length_le (by rw [Hn.out]; omega)]; exact hx))])), hb⟩

theorem contains_int (g : Nat) (fa lb : Array Value) (p : (Int) → Bool) (A : Option Addr) (n cap : Nat) (l : List (Int)) (w : World) (eg : Enters Try.prog g) (hn : l.length = n) (hm : n ≤ 9223372036854775807) (hd : Cells w A 1 encI l)
    (hp : PredF Try.prog g fa lb (Value.int .i64) p w l) :
    Calls Try.prog 87 #[.slice A n cap, .func (.func g) fa lb] w fun e w' => e = .returned (.bool (l.any p)) ∧ Below w.heap.size w w' := by
  have hc := index_int g fa lb p A n cap l w eg hn hm hd hp
  rw [← idxF_nonneg]
  generalize idxF p l = x at *
  have Hc := Lib.hid hc
  clear hc hp hn hd eg
  go_enter Try.func87, Try.ntmps87
  go_wp2_with fail
  refine Hc.out.mono ?_; rintro e w1 ⟨rfl, hb1⟩
  go_wp2
  go_ret
  exact ⟨rfl, hb1⟩

theorem not_int (g : Nat) (fa lb : Array Value) (p : (Int) → Bool) (l : List (Int)) (w : World) (B : Nat) (eg : Enters Try.prog g) (hB : w.cell? ⟨B, 0, none⟩ = some (.func (.func g) fa lb))
    (hp : PredF Try.prog g fa lb (Value.int .i64) p w l) : PredF Try.prog 88 #[] #[.pointer (some ⟨B, 0, none⟩)] (Value.int .i64) (fun x => !p x) w l := by
  intro W x hx hb
  have hB' := cell_ext hB hb
  have hlt := cell_lt hB'
  unfold Enters at eg
  have hc := hp W x hx hb
  show Calls Try.prog 88 #[.int .i64 x, .pointer (some ⟨B, 0, none⟩)] W fun e w' => e = .returned (.bool (!p x)) ∧ Below W.heap.size W w'
  generalize p x = q at *
  have Hc := Lib.hid hc
  clear hc hp hB
  go_enter Try.func88, Try.ntmps88
  go_wp2_with fail
  refine Hc.out.mono ?_; rintro e w1 ⟨rfl, hb1⟩
  go_wp2
  go_ret
  exact ⟨rfl, hb1⟩

theorem all_int (g : Nat) (fa lb : Array Value) (p : (Int) → Bool) (A : Option Addr) (n cap : Nat) (l : List (Int)) (w : World) (eg : Enters Try.prog g) (hn : l.length = n) (hm : n ≤ 9223372036854775807) (hd : Cells w A 1 encI l)
    (hp : PredF Try.prog g fa lb (Value.int .i64) p w l) :
    Calls Try.prog 62 #[.slice A n cap, .func (.func g) fa lb] w fun e w' => e = .returned (.bool (l.all p)) ∧ Below w.heap.size w w' := by
  have hb0 := ext_alloc w (.cells #[.func (.func g) fa lb] 103)
  have hc := contains_int 88 #[] #[.pointer (some ⟨w.heap.size, 0, none⟩)] (fun x => !p x) A n cap l _ (enters_of Try.func88 (by kernel_rfl) rfl) hn hm (hd.ext hb0) (not_int g fa lb p l _ w.heap.size eg (by simp) (hp.later hb0))
  rw [← any_not]
  generalize (l.any fun x => !p x) = q at *
  have Hc := Lib.hid hc
  clear hc hp hn hd eg hb0
  go_enter Try.func62, Try.ntmps62
  go_wp2_with fail
  refine Hc.out.mono ?_; rintro e w1 ⟨rfl, hb1⟩
  go_wp2
  go_ret
  exact ⟨rfl, ext_trans (ext_alloc _ _) hb1⟩

set_option maxHeartbeats 800000 in
theorem index_act (g : Nat) (fa lb : Array Value) (p : (AcV) → Bool) (A : Option Addr) (n cap : Nat) (l : List (AcV)) (w : World) (eg : Enters Try.prog g) (hn : l.length = n) (hm : n ≤ 9223372036854775807) (hd : Cells w A 5 AcV.enc l)
    (hp : PredF Try.prog g fa lb AcV.val p w l) :
    Calls Try.prog 105 #[.slice A n cap, .func (.func g) fa lb] w fun e w' => e = .returned (.int .i64 (idxF p l)) ∧ Below w.heap.size w w' := by
  have Hn := Lib.hid hn
  clear hn
  generalize hres : idxF p l = res
  have Hres := Lib.hid hres
  clear hres
  unfold Enters at eg
  go_enter Try.func105, Try.ntmps105
  go_wp2
  go_loopw [5, 8] (fun _ t wr => ∃ (k : Nat), k ≤ n ∧ t = .int .i64 k ∧ Hid (∀ x ∈ l.take k, p x = false) ∧ Below w.heap.size w wr) (fun _ t _ => n - (intOf t).toNat)
  case atStart => exact ⟨0, by omega, rfl, Lib.hid (by simp), Below.refl _ _⟩
  case round =>
    obtain ⟨k, hk, rfl, Hk, hb⟩ := hrel
    by_cases hlt : k < n
    · have hk1 : k < l.length := by rw [Hn.out]; exact hlt
      obtain ⟨b, off, rfl, hbl, c0, c1, c2, c3, c4⟩ := (hd.ext hb).at5 hk1 rfl
      have hc := hp wr l[k] (List.getElem_mem _) hb
      have hz : (0 : Int) ≤ k := by omega
      cases hq : p l[k]
      · rw [hq] at hc
        have Hq := Lib.hid hq
        have Hc := Lib.hid hc
        clear hc hq hp
        go_wp2_with fail
        refine Hc.out.mono ?_; rintro e w1 ⟨rfl, hb1⟩
        go_wp2
        go_roundw
        case rel => exact ⟨k + 1, by omega, by go_num, Lib.hid (fun x hx => by
          rw [List.take_succ_eq_append_getElem hk1] at hx
          rcases List.mem_append.1 hx with hx | hx
          · exact Hk.out x hx
          · simp at hx; rw [hx]; exact Hq.out), ext_trans hb hb1⟩
        case measure => simp [intOf]; omega
      · rw [hq] at hc
        have Hq := Lib.hid hq
        have Hc := Lib.hid hc
        clear hc hq hp
        go_wp2_with fail
        refine Hc.out.mono ?_; rintro e w1 ⟨rfl, hb1⟩
        go_wp2
        go_ret
        exact ⟨ret_congr (int_congr (by rw [← Hres.out, idxF_hit hk1 Hq.out Hk.out])), ext_trans hb hb1⟩
    · go_wp2
      go_ret
      exact ⟨ret_congr (int_congr (by rw [← Hres.out, idxF_miss (fun x hx => Hk.out x (by rw [List.take_of_length_le (by rw [Hn.out]; omega)]; exact hx))])), hb⟩

theorem contains_act (g : Nat) (fa lb : Array Value) (p : (AcV) → Bool) (A : Option Addr) (n cap : Nat) (l : List (AcV)) (w : World) (eg : Enters Try.prog g) (hn : l.length = n) (hm : n ≤ 9223372036854775807) (hd : Cells w A 5 AcV.enc l)
    (hp : PredF Try.prog g fa lb AcV.val p w l) :
    Calls Try.prog 89 #[.slice A n cap, .func (.func g) fa lb] w fun e w' => e = .returned (.bool (l.any p)) ∧ Below w.heap.size w w' := by
  have hc := index_act g fa lb p A n cap l w eg hn hm hd hp
  rw [← idxF_nonneg]
  generalize idxF p l = x at *
  have Hc := Lib.hid hc
  clear hc hp hn hd eg
  go_enter Try.func89, Try.ntmps89
  go_wp2_with fail
  refine Hc.out.mono ?_; rintro e w1 ⟨rfl, hb1⟩
  go_wp2
  go_ret
  exact ⟨rfl, hb1⟩

theorem not_act (g : Nat) (fa lb : Array Value) (p : (AcV) → Bool) (l : List (AcV)) (w : World) (B : Nat) (eg : Enters Try.prog g) (hB : w.cell? ⟨B, 0, none⟩ = some (.func (.func g) fa lb))
    (hp : PredF Try.prog g fa lb AcV.val p w l) : PredF Try.prog 90 #[] #[.pointer (some ⟨B, 0, none⟩)] AcV.val (fun x => !p x) w l := by
  intro W x hx hb
  have hB' := cell_ext hB hb
  have hlt := cell_lt hB'
  unfold Enters at eg
  have hc := hp _ x hx (ext_trans hb (ext_alloc W (.cells #[.int .i64 x.a.min, .int .i64 x.a.ten, .int .u16 x.a.rigs, .slice x.C x.a.casts.length x.c, .bool x.a.spare] 82)))
  show Calls Try.prog 90 #[.agg #[.int .i64 x.a.min, .int .i64 x.a.ten, .int .u16 x.a.rigs, .slice x.C x.a.casts.length x.c, .bool x.a.spare], .pointer (some ⟨B, 0, none⟩)] W fun e w' => e = .returned (.bool (!p x)) ∧ Below W.heap.size W w'
  generalize p x = q at *
  have Hc := Lib.hid hc
  clear hc hp hB
  go_enter Try.func90, Try.ntmps90
  go_wp2_with fail
  refine Hc.out.mono ?_; rintro e w1 ⟨rfl, hb1⟩
  go_wp2
  go_ret
  exact ⟨rfl, ext_trans (ext_alloc _ _) hb1⟩

theorem all_act (g : Nat) (fa lb : Array Value) (p : (AcV) → Bool) (A : Option Addr) (n cap : Nat) (l : List (AcV)) (w : World) (eg : Enters Try.prog g) (hn : l.length = n) (hm : n ≤ 9223372036854775807) (hd : Cells w A 5 AcV.enc l)
    (hp : PredF Try.prog g fa lb AcV.val p w l) :
    Calls Try.prog 65 #[.slice A n cap, .func (.func g) fa lb] w fun e w' => e = .returned (.bool (l.all p)) ∧ Below w.heap.size w w' := by
  have hb0 := ext_alloc w (.cells #[.func (.func g) fa lb] 106)
  have hc := contains_act 90 #[] #[.pointer (some ⟨w.heap.size, 0, none⟩)] (fun x => !p x) A n cap l _ (enters_of Try.func90 (by kernel_rfl) rfl) hn hm (hd.ext hb0) (not_act g fa lb p l _ w.heap.size eg (by simp) (hp.later hb0))
  rw [← any_not]
  generalize (l.any fun x => !p x) = q at *
  have Hc := Lib.hid hc
  clear hc hp hn hd eg hb0
  go_enter Try.func65, Try.ntmps65
  go_wp2_with fail
  refine Hc.out.mono ?_; rintro e w1 ⟨rfl, hb1⟩
  go_wp2
  go_ret
  exact ⟨rfl, ext_trans (ext_alloc _ _) hb1⟩

set_option maxHeartbeats 800000 in
theorem index_pr (g : Nat) (fa lb : Array Value) (p : (Int × Int) → Bool) (A : Option Addr) (n cap : Nat) (l : List (Int × Int)) (w : World) (eg : Enters Try.prog g) (hn : l.length = n) (hm : n ≤ 9223372036854775807) (hd : Cells w A 2 encP l)
    (hp : PredF Try.prog g fa lb valP p w l) :
    Calls Try.prog 108 #[.slice A n cap, .func (.func g) fa lb] w fun e w' => e = .returned (.int .i64 (idxF p l)) ∧ Below w.heap.size w w' := by
  have Hn := Lib.hid hn
  clear hn
  generalize hres : idxF p l = res
  have Hres := Lib.hid hres
  clear hres
  unfold Enters at eg
  go_enter Try.func108, Try.ntmps108
  go_wp2
  go_loopw [5, 8] (fun _ t wr => ∃ (k : Nat), k ≤ n ∧ t = .int .i64 k ∧ Hid (∀ x ∈ l.take k, p x = false) ∧ Below w.heap.size w wr) (fun _ t _ => n - (intOf t).toNat)
  case atStart => exact ⟨0, by omega, rfl, Lib.hid (by simp), Below.refl _ _⟩
  case round =>
    obtain ⟨k, hk, rfl, Hk, hb⟩ := hrel
    by_cases hlt : k < n
    · have hk1 : k < l.length := by rw [Hn.out]; exact hlt
      obtain ⟨b, off, rfl, hbl, c0, c1⟩ := (hd.ext hb).at2 hk1 rfl
      have hc := hp wr l[k] (List.getElem_mem _) hb
      have hz : (0 : Int) ≤ k := by omega
      cases hq : p l[k]
      · rw [hq] at hc
        have Hq := Lib.hid hq
        have Hc := Lib.hid hc
        clear hc hq hp
        go_wp2_with fail
        refine Hc.out.mono ?_; rintro e w1 ⟨rfl, hb1⟩
        go_wp2
        go_roundw
        case rel => exact ⟨k + 1, by omega, by go_num, Lib.hid (fun x hx => by
          rw [List.take_succ_eq_append_getElem hk1] at hx
          rcases List.mem_append.1 hx with hx | hx
          · exact Hk.out x hx
          · simp at hx; rw [hx]; exact Hq.out), ext_trans hb hb1⟩
        case measure => simp [intOf]; omega
      · rw [hq] at hc
        have Hq := Lib.hid hq
        have Hc := Lib.hid hc
        clear hc hq hp
        go_wp2_with fail
        refine Hc.out.mono ?_; rintro e w1 ⟨rfl, hb1⟩
        go_wp2
        go_ret
        exact ⟨ret_congr (int_congr (by rw [← Hres.out, idxF_hit hk1 Hq.out Hk.out])), ext_trans hb hb1⟩
    · go_wp2
      go_ret
      exact ⟨ret_congr (int_congr (by rw [← Hres.out, idxF_miss (fun x hx => Hk.out x (by rw [List.take_of_length_le (by rw [Hn.out]; omega)]; exact hx))])), hb⟩

theorem contains_pr (g : Nat) (fa lb : Array Value) (p : (Int × Int) → Bool) (A : Option Addr) (n cap : Nat) (l : List (Int × Int)) (w : World) (eg : Enters Try.prog g) (hn : l.length = n) (hm : n ≤ 9223372036854775807) (hd : Cells w A 2 encP l)
    (hp : PredF Try.prog g fa lb valP p w l) :
    Calls Try.prog 94 #[.slice A n cap, .func (.func g) fa lb] w fun e w' => e = .returned (.bool (l.any p)) ∧ Below w.heap.size w w' := by
  have hc := index_pr g fa lb p A n cap l w eg hn hm hd hp
  rw [← idxF_nonneg]
  generalize idxF p l = x at *
  have Hc := Lib.hid hc
  clear hc hp hn hd eg
  go_enter Try.func94, Try.ntmps94
  go_wp2_with fail
  refine Hc.out.mono ?_; rintro e w1 ⟨rfl, hb1⟩
  go_wp2
  go_ret
  exact ⟨rfl, hb1⟩

theorem not_pr (g : Nat) (fa lb : Array Value) (p : (Int × Int) → Bool) (l : List (Int × Int)) (w : World) (B : Nat) (eg : Enters Try.prog g) (hB : w.cell? ⟨B, 0, none⟩ = some (.func (.func g) fa lb))
    (hp : PredF Try.prog g fa lb valP p w l) : PredF Try.prog 95 #[] #[.pointer (some ⟨B, 0, none⟩)] valP (fun x => !p x) w l := by
  intro W x hx hb
  have hB' := cell_ext hB hb
  have hlt := cell_lt hB'
  unfold Enters at eg
  have hc := hp _ x hx (ext_trans hb (ext_alloc W (.cells #[.int .i64 x.1, .int .i64 x.2] 84)))
  show Calls Try.prog 95 #[.agg #[.int .i64 x.1, .int .i64 x.2], .pointer (some ⟨B, 0, none⟩)] W fun e w' => e = .returned (.bool (!p x)) ∧ Below W.heap.size W w'
  generalize p x = q at *
  have Hc := Lib.hid hc
  clear hc hp hB
  go_enter Try.func95, Try.ntmps95
  go_wp2_with fail
  refine Hc.out.mono ?_; rintro e w1 ⟨rfl, hb1⟩
  go_wp2
  go_ret
  exact ⟨rfl, ext_trans (ext_alloc _ _) hb1⟩

theorem all_pr (g : Nat) (fa lb : Array Value) (p : (Int × Int) → Bool) (A : Option Addr) (n cap : Nat) (l : List (Int × Int)) (w : World) (eg : Enters Try.prog g) (hn : l.length = n) (hm : n ≤ 9223372036854775807) (hd : Cells w A 2 encP l)
    (hp : PredF Try.prog g fa lb valP p w l) :
    Calls Try.prog 67 #[.slice A n cap, .func (.func g) fa lb] w fun e w' => e = .returned (.bool (l.all p)) ∧ Below w.heap.size w w' := by
  have hb0 := ext_alloc w (.cells #[.func (.func g) fa lb] 108)
  have hc := contains_pr 95 #[] #[.pointer (some ⟨w.heap.size, 0, none⟩)] (fun x => !p x) A n cap l _ (enters_of Try.func95 (by kernel_rfl) rfl) hn hm (hd.ext hb0) (not_pr g fa lb p l _ w.heap.size eg (by simp) (hp.later hb0))
  rw [← any_not]
  generalize (l.any fun x => !p x) = q at *
  have Hc := Lib.hid hc
  clear hc hp hn hd eg hb0
  go_enter Try.func67, Try.ntmps67
  go_wp2_with fail
  refine Hc.out.mono ?_; rintro e w1 ⟨rfl, hb1⟩
  go_wp2
  go_ret
  exact ⟨rfl, ext_trans (ext_alloc _ _) hb1⟩

set_option maxHeartbeats 800000 in
theorem index_u16 (g : Nat) (fa lb : Array Value) (p : (Nat) → Bool) (A : Option Addr) (n cap : Nat) (l : List (Nat)) (w : World) (eg : Enters Try.prog g) (hn : l.length = n) (hm : n ≤ 9223372036854775807) (hd : Cells w A 1 encU l)
    (hp : PredF Try.prog g fa lb valU p w l) :
    Calls Try.prog 112 #[.slice A n cap, .func (.func g) fa lb] w fun e w' => e = .returned (.int .i64 (idxF p l)) ∧ Below w.heap.size w w' := by
  have Hn := Lib.hid hn
  clear hn
  generalize hres : idxF p l = res
  have Hres := Lib.hid hres
  clear hres
  unfold Enters at eg
  go_enter Try.func112, Try.ntmps112
  go_wp2
  go_loopw [5, 8] (fun _ t wr => ∃ (k : Nat), k ≤ n ∧ t = .int .i64 k ∧ Hid (∀ x ∈ l.take k, p x = false) ∧ Below w.heap.size w wr) (fun _ t _ => n - (intOf t).toNat)
  case atStart => exact ⟨0, by omega, rfl, Lib.hid (by simp), Below.refl _ _⟩
  case round =>
    obtain ⟨k, hk, rfl, Hk, hb⟩ := hrel
    by_cases hlt : k < n
    · have hk1 : k < l.length := by rw [Hn.out]; exact hlt
      obtain ⟨b, off, rfl, hbl, c0⟩ := (hd.ext hb).at1 hk1 rfl
      have hc := hp wr l[k] (List.getElem_mem _) hb
      have hz : (0 : Int) ≤ k := by omega
      cases hq : p l[k]
      · rw [hq] at hc
        have Hq := Lib.hid hq
        have Hc := Lib.hid hc
        clear hc hq hp
        go_wp2_with fail
        refine Hc.out.mono ?_; rintro e w1 ⟨rfl, hb1⟩
        go_wp2
        go_roundw
        case rel => exact ⟨k + 1, by omega, by go_num, Lib.hid (fun x hx => by
          rw [List.take_succ_eq_append_getElem hk1] at hx
          rcases List.mem_append.1 hx with hx | hx
          · exact Hk.out x hx
          · simp at hx; rw [hx]; exact Hq.out), ext_trans hb hb1⟩
        case measure => simp [intOf]; omega
      · rw [hq] at hc
        have Hq := Lib.hid hq
        have Hc := Lib.hid hc
        clear hc hq hp
        go_wp2_with fail
        refine Hc.out.mono ?_; rintro e w1 ⟨rfl, hb1⟩
        go_wp2
        go_ret
        exact ⟨ret_congr (int_congr (by rw [← Hres.out, idxF_hit hk1 Hq.out Hk.out])), ext_trans hb hb1⟩
    · go_wp2
      go_ret
      exact ⟨ret_congr (int_congr (by rw [← Hres.out, idxF_miss (fun x hx => Hk.out x (by rw [List.take_of_length_le (by rw [Hn.out]; omega)]; exact hx))])), hb⟩

theorem contains_u16 (g : Nat) (fa lb : Array Value) (p : (Nat) → Bool) (A : Option Addr) (n cap : Nat) (l : List (Nat)) (w : World) (eg : Enters Try.prog g) (hn : l.length = n) (hm : n ≤ 9223372036854775807) (hd : Cells w A 1 encU l)
    (hp : PredF Try.prog g fa lb valU p w l) :
    Calls Try.prog 106 #[.slice A n cap, .func (.func g) fa lb] w fun e w' => e = .returned (.bool (l.any p)) ∧ Below w.heap.size w w' := by
  have hc := index_u16 g fa lb p A n cap l w eg hn hm hd hp
  rw [← idxF_nonneg]
  generalize idxF p l = x at *
  have Hc := Lib.hid hc
  clear hc hp hn hd eg
  go_enter Try.func106, Try.ntmps106
  go_wp2_with fail
  refine Hc.out.mono ?_; rintro e w1 ⟨rfl, hb1⟩
  go_wp2
  go_ret
  exact ⟨rfl, hb1⟩

theorem not_u16 (g : Nat) (fa lb : Array Value) (p : (Nat) → Bool) (l : List (Nat)) (w : World) (B : Nat) (eg : Enters Try.prog g) (hB : w.cell? ⟨B, 0, none⟩ = some (.func (.func g) fa lb))
    (hp : PredF Try.prog g fa lb valU p w l) : PredF Try.prog 107 #[] #[.pointer (some ⟨B, 0, none⟩)] valU (fun x => !p x) w l := by
  intro W x hx hb
  have hB' := cell_ext hB hb
  have hlt := cell_lt hB'
  unfold Enters at eg
  have hc := hp W x hx hb
  show Calls Try.prog 107 #[.int .u16 (x : Int), .pointer (some ⟨B, 0, none⟩)] W fun e w' => e = .returned (.bool (!p x)) ∧ Below W.heap.size W w'
  generalize p x = q at *
  have Hc := Lib.hid hc
  clear hc hp hB
  go_enter Try.func107, Try.ntmps107
  go_wp2_with fail
  refine Hc.out.mono ?_; rintro e w1 ⟨rfl, hb1⟩
  go_wp2
  go_ret
  exact ⟨rfl, hb1⟩

theorem all_u16 (g : Nat) (fa lb : Array Value) (p : (Nat) → Bool) (A : Option Addr) (n cap : Nat) (l : List (Nat)) (w : World) (eg : Enters Try.prog g) (hn : l.length = n) (hm : n ≤ 9223372036854775807) (hd : Cells w A 1 encU l)
    (hp : PredF Try.prog g fa lb valU p w l) :
    Calls Try.prog 92 #[.slice A n cap, .func (.func g) fa lb] w fun e w' => e = .returned (.bool (l.all p)) ∧ Below w.heap.size w w' := by
  have hb0 := ext_alloc w (.cells #[.func (.func g) fa lb] 131)
  have hc := contains_u16 107 #[] #[.pointer (some ⟨w.heap.size, 0, none⟩)] (fun x => !p x) A n cap l _ (enters_of Try.func107 (by kernel_rfl) rfl) hn hm (hd.ext hb0) (not_u16 g fa lb p l _ w.heap.size eg (by simp) (hp.later hb0))
  rw [← any_not]
  generalize (l.any fun x => !p x) = q at *
  have Hc := Lib.hid hc
  clear hc hp hn hd eg hb0
  go_enter Try.func92, Try.ntmps92
  go_wp2_with fail
  refine Hc.out.mono ?_; rintro e w1 ⟨rfl, hb1⟩
  go_wp2
  go_ret
  exact ⟨rfl, ext_trans (ext_alloc _ _) hb1⟩

set_option maxHeartbeats 800000 in
theorem index_row (g : Nat) (fa lb : Array Value) (p : (RwV) → Bool) (A : Option Addr) (n cap : Nat) (l : List (RwV)) (w : World) (eg : Enters Try.prog g) (hn : l.length = n) (hm : n ≤ 9223372036854775807) (hd : Cells w A 1 RwV.enc l)
    (hp : PredF Try.prog g fa lb RwV.val p w l) :
    Calls Try.prog 111 #[.slice A n cap, .func (.func g) fa lb] w fun e w' => e = .returned (.int .i64 (idxF p l)) ∧ Below w.heap.size w w' := by
  have Hn := Lib.hid hn
  clear hn
  generalize hres : idxF p l = res
  have Hres := Lib.hid hres
  clear hres
  unfold Enters at eg
  go_enter Try.func111, Try.ntmps111
  go_wp2
  go_loopw [5, 8] (fun _ t wr => ∃ (k : Nat), k ≤ n ∧ t = .int .i64 k ∧ Hid (∀ x ∈ l.take k, p x = false) ∧ Below w.heap.size w wr) (fun _ t _ => n - (intOf t).toNat)
  case atStart => exact ⟨0, by omega, rfl, Lib.hid (by simp), Below.refl _ _⟩
  case round =>
    obtain ⟨k, hk, rfl, Hk, hb⟩ := hrel
    by_cases hlt : k < n
    · have hk1 : k < l.length := by rw [Hn.out]; exact hlt
      obtain ⟨b, off, rfl, hbl, c0⟩ := (hd.ext hb).at1 hk1 rfl
      have hc := hp wr l[k] (List.getElem_mem _) hb
      have hz : (0 : Int) ≤ k := by omega
      cases hq : p l[k]
      · rw [hq] at hc
        have Hq := Lib.hid hq
        have Hc := Lib.hid hc
        clear hc hq hp
        go_wp2_with fail
        refine Hc.out.mono ?_; rintro e w1 ⟨rfl, hb1⟩
        go_wp2
        go_roundw
        case rel => exact ⟨k + 1, by omega, by go_num, Lib.hid (fun x hx => by
          rw [List.take_succ_eq_append_getElem hk1] at hx
          rcases List.mem_append.1 hx with hx | hx
          · exact Hk.out x hx
          · simp at hx; rw [hx]; exact Hq.out), ext_trans hb hb1⟩
        case measure => simp [intOf]; omega
      · rw [hq] at hc
        have Hq := Lib.hid hq
        have Hc := Lib.hid hc
        clear hc hq hp
        go_wp2_with fail
        refine Hc.out.mono ?_; rintro e w1 ⟨rfl, hb1⟩
        go_wp2
        go_ret
        exact ⟨ret_congr (int_congr (by rw [← Hres.out, idxF_hit hk1 Hq.out Hk.out])), ext_trans hb hb1⟩
    · go_wp2
      go_ret
      exact ⟨ret_congr (int_congr (by rw [← Hres.out, idxF_miss (fun x hx => Hk.out x (by rw [List.take_of_length_le (by rw [Hn.out]; omega)]; exact hx))])), hb⟩

theorem contains_row (g : Nat) (fa lb : Array Value) (p : (RwV) → Bool) (A : Option Addr) (n cap : Nat) (l : List (RwV)) (w : World) (eg : Enters Try.prog g) (hn : l.length = n) (hm : n ≤ 9223372036854775807) (hd : Cells w A 1 RwV.enc l)
    (hp : PredF Try.prog g fa lb RwV.val p w l) :
    Calls Try.prog 102 #[.slice A n cap, .func (.func g) fa lb] w fun e w' => e = .returned (.bool (l.any p)) ∧ Below w.heap.size w w' := by
  have hc := index_row g fa lb p A n cap l w eg hn hm hd hp
  rw [← idxF_nonneg]
  generalize idxF p l = x at *
  have Hc := Lib.hid hc
  clear hc hp hn hd eg
  go_enter Try.func102, Try.ntmps102
  go_wp2_with fail
  refine Hc.out.mono ?_; rintro e w1 ⟨rfl, hb1⟩
  go_wp2
  go_ret
  exact ⟨rfl, hb1⟩

theorem not_row (g : Nat) (fa lb : Array Value) (p : (RwV) → Bool) (l : List (RwV)) (w : World) (B : Nat) (eg : Enters Try.prog g) (hB : w.cell? ⟨B, 0, none⟩ = some (.func (.func g) fa lb))
    (hp : PredF Try.prog g fa lb RwV.val p w l) : PredF Try.prog 103 #[] #[.pointer (some ⟨B, 0, none⟩)] RwV.val (fun x => !p x) w l := by
  intro W x hx hb
  have hB' := cell_ext hB hb
  have hlt := cell_lt hB'
  unfold Enters at eg
  have hc := hp W x hx hb
  show Calls Try.prog 103 #[.slice x.A x.r.length x.c, .pointer (some ⟨B, 0, none⟩)] W fun e w' => e = .returned (.bool (!p x)) ∧ Below W.heap.size W w'
  generalize p x = q at *
  have Hc := Lib.hid hc
  clear hc hp hB
  go_enter Try.func103, Try.ntmps103
  go_wp2_with fail
  refine Hc.out.mono ?_; rintro e w1 ⟨rfl, hb1⟩
  go_wp2
  go_ret
  exact ⟨rfl, hb1⟩

theorem all_row (g : Nat) (fa lb : Array Value) (p : (RwV) → Bool) (A : Option Addr) (n cap : Nat) (l : List (RwV)) (w : World) (eg : Enters Try.prog g) (hn : l.length = n) (hm : n ≤ 9223372036854775807) (hd : Cells w A 1 RwV.enc l)
    (hp : PredF Try.prog g fa lb RwV.val p w l) :
    Calls Try.prog 82 #[.slice A n cap, .func (.func g) fa lb] w fun e w' => e = .returned (.bool (l.all p)) ∧ Below w.heap.size w w' := by
  have hb0 := ext_alloc w (.cells #[.func (.func g) fa lb] 64)
  have hc := contains_row 103 #[] #[.pointer (some ⟨w.heap.size, 0, none⟩)] (fun x => !p x) A n cap l _ (enters_of Try.func103 (by kernel_rfl) rfl) hn hm (hd.ext hb0) (not_row g fa lb p l _ w.heap.size eg (by simp) (hp.later hb0))
  rw [← any_not]
  generalize (l.any fun x => !p x) = q at *
  have Hc := Lib.hid hc
  clear hc hp hn hd eg hb0
  go_enter Try.func82, Try.ntmps82
  go_wp2_with fail
  refine Hc.out.mono ?_; rintro e w1 ⟨rfl, hb1⟩
  go_wp2
  go_ret
  exact ⟨rfl, ext_trans (ext_alloc _ _) hb1⟩

set_option maxHeartbeats 800000 in
theorem index_nx (g : Nat) (fa lb : Array Value) (p : (Nx) → Bool) (A : Option Addr) (n cap : Nat) (l : List (Nx)) (w : World) (eg : Enters Try.prog g) (hn : l.length = n) (hm : n ≤ 9223372036854775807) (hd : Cells w A 5 Nx.enc l)
    (hp : PredF Try.prog g fa lb Nx.val p w l) :
    Calls Try.prog 72 #[.slice A n cap, .func (.func g) fa lb] w fun e w' => e = .returned (.int .i64 (idxF p l)) ∧ Below w.heap.size w w' := by
  have Hn := Lib.hid hn
  clear hn
  generalize hres : idxF p l = res
  have Hres := Lib.hid hres
  clear hres
  unfold Enters at eg
  go_enter Try.func72, Try.ntmps72
  go_wp2
  go_loopw [5, 8] (fun _ t wr => ∃ (k : Nat), k ≤ n ∧ t = .int .i64 k ∧ Hid (∀ x ∈ l.take k, p x = false) ∧ Below w.heap.size w wr) (fun _ t _ => n - (intOf t).toNat)
  case atStart => exact ⟨0, by omega, rfl, Lib.hid (by simp), Below.refl _ _⟩
  case round =>
    obtain ⟨k, hk, rfl, Hk, hb⟩ := hrel
    by_cases hlt : k < n
    · have hk1 : k < l.length := by rw [Hn.out]; exact hlt
      obtain ⟨b, off, rfl, hbl, c0, c1, c2, c3, c4⟩ := (hd.ext hb).at5 hk1 rfl
      have hc := hp wr l[k] (List.getElem_mem _) hb
      have hz : (0 : Int) ≤ k := by omega
      cases hq : p l[k]
      · rw [hq] at hc
        have Hq := Lib.hid hq
        have Hc := Lib.hid hc
        clear hc hq hp
        go_wp2_with fail
        refine Hc.out.mono ?_; rintro e w1 ⟨rfl, hb1⟩
        go_wp2
        go_roundw
        case rel => exact ⟨k + 1, by omega, by go_num, Lib.hid (fun x hx => by
          rw [List.take_succ_eq_append_getElem hk1] at hx
          rcases List.mem_append.1 hx with hx | hx
          · exact Hk.out x hx
          · simp at hx; rw [hx]; exact Hq.out), ext_trans hb hb1⟩
        case measure => simp [intOf]; omega
      · rw [hq] at hc
        have Hq := Lib.hid hq
        have Hc := Lib.hid hc
        clear hc hq hp
        go_wp2_with fail
        refine Hc.out.mono ?_; rintro e w1 ⟨rfl, hb1⟩
        go_wp2
        go_ret
        exact ⟨ret_congr (int_congr (by rw [← Hres.out, idxF_hit hk1 Hq.out Hk.out])), ext_trans hb hb1⟩
    · go_wp2
      go_ret
      exact ⟨ret_congr (int_congr (by rw [← Hres.out, idxF_miss (fun x hx => Hk.out x (by rw [List.take_of_length_le (by rw [Hn.out]; omega)]; exact hx))])), hb⟩

theorem contains_nx (g : Nat) (fa lb : Array Value) (p : (Nx) → Bool) (A : Option Addr) (n cap : Nat) (l : List (Nx)) (w : World) (eg : Enters Try.prog g) (hn : l.length = n) (hm : n ≤ 9223372036854775807) (hd : Cells w A 5 Nx.enc l)
    (hp : PredF Try.prog g fa lb Nx.val p w l) :
    Calls Try.prog 85 #[.slice A n cap, .func (.func g) fa lb] w fun e w' => e = .returned (.bool (l.any p)) ∧ Below w.heap.size w w' := by
  have hc := index_nx g fa lb p A n cap l w eg hn hm hd hp
  rw [← idxF_nonneg]
  generalize idxF p l = x at *
  have Hc := Lib.hid hc
  clear hc hp hn hd eg
  go_enter Try.func85, Try.ntmps85
  go_wp2_with fail
  refine Hc.out.mono ?_; rintro e w1 ⟨rfl, hb1⟩
  go_wp2
  go_ret
  exact ⟨rfl, hb1⟩


end Go.Proofs.Ytcnidhcdkbfpcaa

/- Walks: within; all, slices.ContainsFunc, slices.IndexFunc at each element type. -/
import Derived.Test.YtopfhinnamhoiaaEnc
namespace Go.Proofs.Ytopfhinnamhoiaa
open Go.RowKit Go.Bs Go.Yd Go.Pl Go.Sort




set_option maxHeartbeats 800000 in
theorem index_int (g : Nat) (lb : Array Value) (p : (Int) → Bool) (A : Option Addr) (n cap : Nat) (l : List (Int)) (w : World) (eg : Enters Try.prog g) (hn : l.length = n) (hm : n ≤ 9223372036854775807) (hd : Cells w A 1 encI l)
    (hp : PredB Try.prog g lb (Value.int .i64) p w l) :
    Calls Try.prog 124 #[.slice A n cap, .func (.func g) #[] lb] w fun e w' => e = .returned (.int .i64 (idxF p l)) ∧ Below w.heap.size w w' := by
  have Hn := Lib.hid hn
  clear hn
  generalize hres : idxF p l = res
  have Hres := Lib.hid hres
  clear hres
  unfold Enters at eg
  go_enter Try.func124, Try.ntmps124
  go_wp2
  go_loopw [5, 8] (fun _ t wr => ∃ (k : Nat), k ≤ n ∧ t = .int .i64 k ∧ Hid (∀ x ∈ l.take k, p x = false) ∧ Below w.heap.size w wr) (fun _ t _ => n - (intOf t).toNat)
  case atStart => exact ⟨0, by omega, rfl, Lib.hid (by simp), Below.refl _ _⟩
  case round =>
    obtain ⟨k, hk, rfl, Hk, hb⟩ := hrel
    by_cases hlt : k < n
    · have hk1 : k < l.length := by rw [Hn.out]; exact hlt
      obtain ⟨b, off, rfl, hbl, c0⟩ := (hd.ext hb).at1 hk1 rfl
      have hc := hp wr l[k] (List.getElem_mem _) hb
      have hz : (0 : Int) ≤ k := by omega
      cases hq : p l[k]
      · rw [hq] at hc
        have Hq := Lib.hid hq
        have Hc := Lib.hid hc
        clear hc hq hp
        go_wp2_with fail
        refine Hc.out.mono ?_; rintro e w1 ⟨rfl, hb1⟩
        go_wp2
        go_roundw
        case rel => exact ⟨k + 1, by omega, by go_num, Lib.hid (fun x hx => by
          rw [List.take_succ_eq_append_getElem hk1] at hx
          rcases List.mem_append.1 hx with hx | hx
          · exact Hk.out x hx
          · simp at hx; rw [hx]; exact Hq.out), ext_trans hb hb1⟩
        case measure => simp [intOf]; omega
      · rw [hq] at hc
        have Hq := Lib.hid hq
        have Hc := Lib.hid hc
        clear hc hq hp
        go_wp2_with fail
        refine Hc.out.mono ?_; rintro e w1 ⟨rfl, hb1⟩
        go_wp2
        go_ret
        exact ⟨ret_congr (int_congr (by rw [← Hres.out, idxF_hit hk1 Hq.out Hk.out])), ext_trans hb hb1⟩
    · go_wp2
      go_ret
      exact ⟨ret_congr (int_congr (by rw [← Hres.out, idxF_miss (fun x hx => Hk.out x (by rw [List.take_of_length_le (by rw [Hn.out]; omega)]; exact hx))])), hb⟩

theorem contains_int (g : Nat) (lb : Array Value) (p : (Int) → Bool) (A : Option Addr) (n cap : Nat) (l : List (Int)) (w : World) (eg : Enters Try.prog g) (hn : l.length = n) (hm : n ≤ 9223372036854775807) (hd : Cells w A 1 encI l)
    (hp : PredB Try.prog g lb (Value.int .i64) p w l) :
    Calls Try.prog 97 #[.slice A n cap, .func (.func g) #[] lb] w fun e w' => e = .returned (.bool (l.any p)) ∧ Below w.heap.size w w' := by
  have hc := index_int g lb p A n cap l w eg hn hm hd hp
  rw [← idxF_nonneg]
  generalize idxF p l = x at *
  have Hc := Lib.hid hc
  clear hc hp hn hd eg
  go_enter Try.func97, Try.ntmps97
  go_wp2_with fail
  refine Hc.out.mono ?_; rintro e w1 ⟨rfl, hb1⟩
  go_wp2
  go_ret
  exact ⟨rfl, hb1⟩

theorem not_int (g : Nat) (lb : Array Value) (p : (Int) → Bool) (l : List (Int)) (w : World) (B : Nat) (eg : Enters Try.prog g) (hB : w.cell? ⟨B, 0, none⟩ = some (.func (.func g) #[] lb))
    (hp : PredB Try.prog g lb (Value.int .i64) p w l) : PredB Try.prog 98 #[.pointer (some ⟨B, 0, none⟩)] (Value.int .i64) (fun x => !p x) w l := by
  intro W x hx hb
  have hB' := cell_ext hB hb
  have hlt := cell_lt hB'
  unfold Enters at eg
  have hc := hp W x hx hb
  show Calls Try.prog 98 #[.int .i64 x, .pointer (some ⟨B, 0, none⟩)] W fun e w' => e = .returned (.bool (!p x)) ∧ Below W.heap.size W w'
  generalize p x = q at *
  have Hc := Lib.hid hc
  clear hc hp hB
  go_enter Try.func98, Try.ntmps98
  go_wp2_with fail
  refine Hc.out.mono ?_; rintro e w1 ⟨rfl, hb1⟩
  go_wp2
  go_ret
  exact ⟨rfl, hb1⟩

theorem all_int (g : Nat) (lb : Array Value) (p : (Int) → Bool) (A : Option Addr) (n cap : Nat) (l : List (Int)) (w : World) (eg : Enters Try.prog g) (hn : l.length = n) (hm : n ≤ 9223372036854775807) (hd : Cells w A 1 encI l)
    (hp : PredB Try.prog g lb (Value.int .i64) p w l) :
    Calls Try.prog 72 #[.slice A n cap, .func (.func g) #[] lb] w fun e w' => e = .returned (.bool (l.all p)) ∧ Below w.heap.size w w' := by
  have hb0 := ext_alloc w (.cells #[.func (.func g) #[] lb] 125)
  have hc := contains_int 98 #[.pointer (some ⟨w.heap.size, 0, none⟩)] (fun x => !p x) A n cap l _ (enters_of Try.func98 (by kernel_rfl) rfl) hn hm (hd.ext hb0) (not_int g lb p l _ w.heap.size eg (by simp) (hp.later hb0))
  rw [← any_not]
  generalize (l.any fun x => !p x) = q at *
  have Hc := Lib.hid hc
  clear hc hp hn hd eg hb0
  go_enter Try.func72, Try.ntmps72
  go_wp2_with fail
  refine Hc.out.mono ?_; rintro e w1 ⟨rfl, hb1⟩
  go_wp2
  go_ret
  exact ⟨rfl, ext_trans (ext_alloc _ _) hb1⟩

set_option maxHeartbeats 800000 in
theorem index_mkt (g : Nat) (lb : Array Value) (p : (Mkt) → Bool) (A : Option Addr) (n cap : Nat) (l : List (Mkt)) (w : World) (eg : Enters Try.prog g) (hn : l.length = n) (hm : n ≤ 9223372036854775807) (hd : Cells w A 4 Mkt.enc l)
    (hp : PredB Try.prog g lb Mkt.val p w l) :
    Calls Try.prog 136 #[.slice A n cap, .func (.func g) #[] lb] w fun e w' => e = .returned (.int .i64 (idxF p l)) ∧ Below w.heap.size w w' := by
  have Hn := Lib.hid hn
  clear hn
  generalize hres : idxF p l = res
  have Hres := Lib.hid hres
  clear hres
  unfold Enters at eg
  go_enter Try.func136, Try.ntmps136
  go_wp2
  go_loopw [5, 8] (fun _ t wr => ∃ (k : Nat), k ≤ n ∧ t = .int .i64 k ∧ Hid (∀ x ∈ l.take k, p x = false) ∧ Below w.heap.size w wr) (fun _ t _ => n - (intOf t).toNat)
  case atStart => exact ⟨0, by omega, rfl, Lib.hid (by simp), Below.refl _ _⟩
  case round =>
    obtain ⟨k, hk, rfl, Hk, hb⟩ := hrel
    by_cases hlt : k < n
    · have hk1 : k < l.length := by rw [Hn.out]; exact hlt
      obtain ⟨b, off, rfl, hbl, c0, c1, c2, c3⟩ := (hd.ext hb).at4 hk1 rfl
      have hc := hp wr l[k] (List.getElem_mem _) hb
      have hz : (0 : Int) ≤ k := by omega
      cases hq : p l[k]
      · rw [hq] at hc
        have Hq := Lib.hid hq
        have Hc := Lib.hid hc
        clear hc hq hp
        go_wp2_with fail
        refine Hc.out.mono ?_; rintro e w1 ⟨rfl, hb1⟩
        go_wp2
        go_roundw
        case rel => exact ⟨k + 1, by omega, by go_num, Lib.hid (fun x hx => by
          rw [List.take_succ_eq_append_getElem hk1] at hx
          rcases List.mem_append.1 hx with hx | hx
          · exact Hk.out x hx
          · simp at hx; rw [hx]; exact Hq.out), ext_trans hb hb1⟩
        case measure => simp [intOf]; omega
      · rw [hq] at hc
        have Hq := Lib.hid hq
        have Hc := Lib.hid hc
        clear hc hq hp
        go_wp2_with fail
        refine Hc.out.mono ?_; rintro e w1 ⟨rfl, hb1⟩
        go_wp2
        go_ret
        exact ⟨ret_congr (int_congr (by rw [← Hres.out, idxF_hit hk1 Hq.out Hk.out])), ext_trans hb hb1⟩
    · go_wp2
      go_ret
      exact ⟨ret_congr (int_congr (by rw [← Hres.out, idxF_miss (fun x hx => Hk.out x (by rw [List.take_of_length_le (by rw [Hn.out]; omega)]; exact hx))])), hb⟩

theorem contains_mkt (g : Nat) (lb : Array Value) (p : (Mkt) → Bool) (A : Option Addr) (n cap : Nat) (l : List (Mkt)) (w : World) (eg : Enters Try.prog g) (hn : l.length = n) (hm : n ≤ 9223372036854775807) (hd : Cells w A 4 Mkt.enc l)
    (hp : PredB Try.prog g lb Mkt.val p w l) :
    Calls Try.prog 130 #[.slice A n cap, .func (.func g) #[] lb] w fun e w' => e = .returned (.bool (l.any p)) ∧ Below w.heap.size w w' := by
  have hc := index_mkt g lb p A n cap l w eg hn hm hd hp
  rw [← idxF_nonneg]
  generalize idxF p l = x at *
  have Hc := Lib.hid hc
  clear hc hp hn hd eg
  go_enter Try.func130, Try.ntmps130
  go_wp2_with fail
  refine Hc.out.mono ?_; rintro e w1 ⟨rfl, hb1⟩
  go_wp2
  go_ret
  exact ⟨rfl, hb1⟩

theorem not_mkt (g : Nat) (lb : Array Value) (p : (Mkt) → Bool) (l : List (Mkt)) (w : World) (B : Nat) (eg : Enters Try.prog g) (hB : w.cell? ⟨B, 0, none⟩ = some (.func (.func g) #[] lb))
    (hp : PredB Try.prog g lb Mkt.val p w l) : PredB Try.prog 131 #[.pointer (some ⟨B, 0, none⟩)] Mkt.val (fun x => !p x) w l := by
  intro W x hx hb
  have hB' := cell_ext hB hb
  have hlt := cell_lt hB'
  unfold Enters at eg
  have hc := hp _ x hx (ext_trans hb (ext_alloc W (.cells #[.int .i64 x.need, .int .i64 x.price, .int .i64 x.trip, .bool x.opn] 123)))
  show Calls Try.prog 131 #[.agg #[.int .i64 x.need, .int .i64 x.price, .int .i64 x.trip, .bool x.opn], .pointer (some ⟨B, 0, none⟩)] W fun e w' => e = .returned (.bool (!p x)) ∧ Below W.heap.size W w'
  generalize p x = q at *
  have Hc := Lib.hid hc
  clear hc hp hB
  go_enter Try.func131, Try.ntmps131
  go_wp2_with fail
  refine Hc.out.mono ?_; rintro e w1 ⟨rfl, hb1⟩
  go_wp2
  go_ret
  exact ⟨rfl, ext_trans (ext_alloc _ _) hb1⟩

theorem all_mkt (g : Nat) (lb : Array Value) (p : (Mkt) → Bool) (A : Option Addr) (n cap : Nat) (l : List (Mkt)) (w : World) (eg : Enters Try.prog g) (hn : l.length = n) (hm : n ≤ 9223372036854775807) (hd : Cells w A 4 Mkt.enc l)
    (hp : PredB Try.prog g lb Mkt.val p w l) :
    Calls Try.prog 113 #[.slice A n cap, .func (.func g) #[] lb] w fun e w' => e = .returned (.bool (l.all p)) ∧ Below w.heap.size w w' := by
  have hb0 := ext_alloc w (.cells #[.func (.func g) #[] lb] 170)
  have hc := contains_mkt 131 #[.pointer (some ⟨w.heap.size, 0, none⟩)] (fun x => !p x) A n cap l _ (enters_of Try.func131 (by kernel_rfl) rfl) hn hm (hd.ext hb0) (not_mkt g lb p l _ w.heap.size eg (by simp) (hp.later hb0))
  rw [← any_not]
  generalize (l.any fun x => !p x) = q at *
  have Hc := Lib.hid hc
  clear hc hp hn hd eg hb0
  go_enter Try.func113, Try.ntmps113
  go_wp2_with fail
  refine Hc.out.mono ?_; rintro e w1 ⟨rfl, hb1⟩
  go_wp2
  go_ret
  exact ⟨rfl, ext_trans (ext_alloc _ _) hb1⟩

set_option maxHeartbeats 800000 in
theorem index_eng (g : Nat) (lb : Array Value) (p : (Eng) → Bool) (A : Option Addr) (n cap : Nat) (l : List (Eng)) (w : World) (eg : Enters Try.prog g) (hn : l.length = n) (hm : n ≤ 9223372036854775807) (hd : Cells w A 3 Eng.enc l)
    (hp : PredB Try.prog g lb Eng.val p w l) :
    Calls Try.prog 132 #[.slice A n cap, .func (.func g) #[] lb] w fun e w' => e = .returned (.int .i64 (idxF p l)) ∧ Below w.heap.size w w' := by
  have Hn := Lib.hid hn
  clear hn
  generalize hres : idxF p l = res
  have Hres := Lib.hid hres
  clear hres
  unfold Enters at eg
  go_enter Try.func132, Try.ntmps132
  go_wp2
  go_loopw [5, 8] (fun _ t wr => ∃ (k : Nat), k ≤ n ∧ t = .int .i64 k ∧ Hid (∀ x ∈ l.take k, p x = false) ∧ Below w.heap.size w wr) (fun _ t _ => n - (intOf t).toNat)
  case atStart => exact ⟨0, by omega, rfl, Lib.hid (by simp), Below.refl _ _⟩
  case round =>
    obtain ⟨k, hk, rfl, Hk, hb⟩ := hrel
    by_cases hlt : k < n
    · have hk1 : k < l.length := by rw [Hn.out]; exact hlt
      obtain ⟨b, off, rfl, hbl, c0, c1, c2⟩ := (hd.ext hb).at3 hk1 rfl
      have hc := hp wr l[k] (List.getElem_mem _) hb
      have hz : (0 : Int) ≤ k := by omega
      cases hq : p l[k]
      · rw [hq] at hc
        have Hq := Lib.hid hq
        have Hc := Lib.hid hc
        clear hc hq hp
        go_wp2_with fail
        refine Hc.out.mono ?_; rintro e w1 ⟨rfl, hb1⟩
        go_wp2
        go_roundw
        case rel => exact ⟨k + 1, by omega, by go_num, Lib.hid (fun x hx => by
          rw [List.take_succ_eq_append_getElem hk1] at hx
          rcases List.mem_append.1 hx with hx | hx
          · exact Hk.out x hx
          · simp at hx; rw [hx]; exact Hq.out), ext_trans hb hb1⟩
        case measure => simp [intOf]; omega
      · rw [hq] at hc
        have Hq := Lib.hid hq
        have Hc := Lib.hid hc
        clear hc hq hp
        go_wp2_with fail
        refine Hc.out.mono ?_; rintro e w1 ⟨rfl, hb1⟩
        go_wp2
        go_ret
        exact ⟨ret_congr (int_congr (by rw [← Hres.out, idxF_hit hk1 Hq.out Hk.out])), ext_trans hb hb1⟩
    · go_wp2
      go_ret
      exact ⟨ret_congr (int_congr (by rw [← Hres.out, idxF_miss (fun x hx => Hk.out x (by rw [List.take_of_length_le (by rw [Hn.out]; omega)]; exact hx))])), hb⟩

theorem contains_eng (g : Nat) (lb : Array Value) (p : (Eng) → Bool) (A : Option Addr) (n cap : Nat) (l : List (Eng)) (w : World) (eg : Enters Try.prog g) (hn : l.length = n) (hm : n ≤ 9223372036854775807) (hd : Cells w A 3 Eng.enc l)
    (hp : PredB Try.prog g lb Eng.val p w l) :
    Calls Try.prog 120 #[.slice A n cap, .func (.func g) #[] lb] w fun e w' => e = .returned (.bool (l.any p)) ∧ Below w.heap.size w w' := by
  have hc := index_eng g lb p A n cap l w eg hn hm hd hp
  rw [← idxF_nonneg]
  generalize idxF p l = x at *
  have Hc := Lib.hid hc
  clear hc hp hn hd eg
  go_enter Try.func120, Try.ntmps120
  go_wp2_with fail
  refine Hc.out.mono ?_; rintro e w1 ⟨rfl, hb1⟩
  go_wp2
  go_ret
  exact ⟨rfl, hb1⟩

theorem not_eng (g : Nat) (lb : Array Value) (p : (Eng) → Bool) (l : List (Eng)) (w : World) (B : Nat) (eg : Enters Try.prog g) (hB : w.cell? ⟨B, 0, none⟩ = some (.func (.func g) #[] lb))
    (hp : PredB Try.prog g lb Eng.val p w l) : PredB Try.prog 121 #[.pointer (some ⟨B, 0, none⟩)] Eng.val (fun x => !p x) w l := by
  intro W x hx hb
  have hB' := cell_ext hB hb
  have hlt := cell_lt hB'
  unfold Enters at eg
  have hc := hp _ x hx (ext_trans hb (ext_alloc W (.cells #[.int .i64 x.most, .int .i64 x.idle, .int .i64 x.per] 121)))
  show Calls Try.prog 121 #[.agg #[.int .i64 x.most, .int .i64 x.idle, .int .i64 x.per], .pointer (some ⟨B, 0, none⟩)] W fun e w' => e = .returned (.bool (!p x)) ∧ Below W.heap.size W w'
  generalize p x = q at *
  have Hc := Lib.hid hc
  clear hc hp hB
  go_enter Try.func121, Try.ntmps121
  go_wp2_with fail
  refine Hc.out.mono ?_; rintro e w1 ⟨rfl, hb1⟩
  go_wp2
  go_ret
  exact ⟨rfl, ext_trans (ext_alloc _ _) hb1⟩

theorem all_eng (g : Nat) (lb : Array Value) (p : (Eng) → Bool) (A : Option Addr) (n cap : Nat) (l : List (Eng)) (w : World) (eg : Enters Try.prog g) (hn : l.length = n) (hm : n ≤ 9223372036854775807) (hd : Cells w A 3 Eng.enc l)
    (hp : PredB Try.prog g lb Eng.val p w l) :
    Calls Try.prog 94 #[.slice A n cap, .func (.func g) #[] lb] w fun e w' => e = .returned (.bool (l.all p)) ∧ Below w.heap.size w w' := by
  have hb0 := ext_alloc w (.cells #[.func (.func g) #[] lb] 153)
  have hc := contains_eng 121 #[.pointer (some ⟨w.heap.size, 0, none⟩)] (fun x => !p x) A n cap l _ (enters_of Try.func121 (by kernel_rfl) rfl) hn hm (hd.ext hb0) (not_eng g lb p l _ w.heap.size eg (by simp) (hp.later hb0))
  rw [← any_not]
  generalize (l.any fun x => !p x) = q at *
  have Hc := Lib.hid hc
  clear hc hp hn hd eg hb0
  go_enter Try.func94, Try.ntmps94
  go_wp2_with fail
  refine Hc.out.mono ?_; rintro e w1 ⟨rfl, hb1⟩
  go_wp2
  go_ret
  exact ⟨rfl, ext_trans (ext_alloc _ _) hb1⟩

set_option maxHeartbeats 800000 in
theorem index_pr (g : Nat) (lb : Array Value) (p : (Int × Int) → Bool) (A : Option Addr) (n cap : Nat) (l : List (Int × Int)) (w : World) (eg : Enters Try.prog g) (hn : l.length = n) (hm : n ≤ 9223372036854775807) (hd : Cells w A 2 encP l)
    (hp : PredB Try.prog g lb valP p w l) :
    Calls Try.prog 135 #[.slice A n cap, .func (.func g) #[] lb] w fun e w' => e = .returned (.int .i64 (idxF p l)) ∧ Below w.heap.size w w' := by
  have Hn := Lib.hid hn
  clear hn
  generalize hres : idxF p l = res
  have Hres := Lib.hid hres
  clear hres
  unfold Enters at eg
  go_enter Try.func135, Try.ntmps135
  go_wp2
  go_loopw [5, 8] (fun _ t wr => ∃ (k : Nat), k ≤ n ∧ t = .int .i64 k ∧ Hid (∀ x ∈ l.take k, p x = false) ∧ Below w.heap.size w wr) (fun _ t _ => n - (intOf t).toNat)
  case atStart => exact ⟨0, by omega, rfl, Lib.hid (by simp), Below.refl _ _⟩
  case round =>
    obtain ⟨k, hk, rfl, Hk, hb⟩ := hrel
    by_cases hlt : k < n
    · have hk1 : k < l.length := by rw [Hn.out]; exact hlt
      obtain ⟨b, off, rfl, hbl, c0, c1⟩ := (hd.ext hb).at2 hk1 rfl
      have hc := hp wr l[k] (List.getElem_mem _) hb
      have hz : (0 : Int) ≤ k := by omega
      cases hq : p l[k]
      · rw [hq] at hc
        have Hq := Lib.hid hq
        have Hc := Lib.hid hc
        clear hc hq hp
        go_wp2_with fail
        refine Hc.out.mono ?_; rintro e w1 ⟨rfl, hb1⟩
        go_wp2
        go_roundw
        case rel => exact ⟨k + 1, by omega, by go_num, Lib.hid (fun x hx => by
          rw [List.take_succ_eq_append_getElem hk1] at hx
          rcases List.mem_append.1 hx with hx | hx
          · exact Hk.out x hx
          · simp at hx; rw [hx]; exact Hq.out), ext_trans hb hb1⟩
        case measure => simp [intOf]; omega
      · rw [hq] at hc
        have Hq := Lib.hid hq
        have Hc := Lib.hid hc
        clear hc hq hp
        go_wp2_with fail
        refine Hc.out.mono ?_; rintro e w1 ⟨rfl, hb1⟩
        go_wp2
        go_ret
        exact ⟨ret_congr (int_congr (by rw [← Hres.out, idxF_hit hk1 Hq.out Hk.out])), ext_trans hb hb1⟩
    · go_wp2
      go_ret
      exact ⟨ret_congr (int_congr (by rw [← Hres.out, idxF_miss (fun x hx => Hk.out x (by rw [List.take_of_length_le (by rw [Hn.out]; omega)]; exact hx))])), hb⟩

theorem contains_pr (g : Nat) (lb : Array Value) (p : (Int × Int) → Bool) (A : Option Addr) (n cap : Nat) (l : List (Int × Int)) (w : World) (eg : Enters Try.prog g) (hn : l.length = n) (hm : n ≤ 9223372036854775807) (hd : Cells w A 2 encP l)
    (hp : PredB Try.prog g lb valP p w l) :
    Calls Try.prog 128 #[.slice A n cap, .func (.func g) #[] lb] w fun e w' => e = .returned (.bool (l.any p)) ∧ Below w.heap.size w w' := by
  have hc := index_pr g lb p A n cap l w eg hn hm hd hp
  rw [← idxF_nonneg]
  generalize idxF p l = x at *
  have Hc := Lib.hid hc
  clear hc hp hn hd eg
  go_enter Try.func128, Try.ntmps128
  go_wp2_with fail
  refine Hc.out.mono ?_; rintro e w1 ⟨rfl, hb1⟩
  go_wp2
  go_ret
  exact ⟨rfl, hb1⟩

theorem not_pr (g : Nat) (lb : Array Value) (p : (Int × Int) → Bool) (l : List (Int × Int)) (w : World) (B : Nat) (eg : Enters Try.prog g) (hB : w.cell? ⟨B, 0, none⟩ = some (.func (.func g) #[] lb))
    (hp : PredB Try.prog g lb valP p w l) : PredB Try.prog 129 #[.pointer (some ⟨B, 0, none⟩)] valP (fun x => !p x) w l := by
  intro W x hx hb
  have hB' := cell_ext hB hb
  have hlt := cell_lt hB'
  unfold Enters at eg
  have hc := hp _ x hx (ext_trans hb (ext_alloc W (.cells #[.int .i64 x.1, .int .i64 x.2] 64)))
  show Calls Try.prog 129 #[.agg #[.int .i64 x.1, .int .i64 x.2], .pointer (some ⟨B, 0, none⟩)] W fun e w' => e = .returned (.bool (!p x)) ∧ Below W.heap.size W w'
  generalize p x = q at *
  have Hc := Lib.hid hc
  clear hc hp hB
  go_enter Try.func129, Try.ntmps129
  go_wp2_with fail
  refine Hc.out.mono ?_; rintro e w1 ⟨rfl, hb1⟩
  go_wp2
  go_ret
  exact ⟨rfl, ext_trans (ext_alloc _ _) hb1⟩

theorem all_pr (g : Nat) (lb : Array Value) (p : (Int × Int) → Bool) (A : Option Addr) (n cap : Nat) (l : List (Int × Int)) (w : World) (eg : Enters Try.prog g) (hn : l.length = n) (hm : n ≤ 9223372036854775807) (hd : Cells w A 2 encP l)
    (hp : PredB Try.prog g lb valP p w l) :
    Calls Try.prog 106 #[.slice A n cap, .func (.func g) #[] lb] w fun e w' => e = .returned (.bool (l.all p)) ∧ Below w.heap.size w w' := by
  have hb0 := ext_alloc w (.cells #[.func (.func g) #[] lb] 163)
  have hc := contains_pr 129 #[.pointer (some ⟨w.heap.size, 0, none⟩)] (fun x => !p x) A n cap l _ (enters_of Try.func129 (by kernel_rfl) rfl) hn hm (hd.ext hb0) (not_pr g lb p l _ w.heap.size eg (by simp) (hp.later hb0))
  rw [← any_not]
  generalize (l.any fun x => !p x) = q at *
  have Hc := Lib.hid hc
  clear hc hp hn hd eg hb0
  go_enter Try.func106, Try.ntmps106
  go_wp2_with fail
  refine Hc.out.mono ?_; rintro e w1 ⟨rfl, hb1⟩
  go_wp2
  go_ret
  exact ⟨rfl, ext_trans (ext_alloc _ _) hb1⟩

end Go.Proofs.Ytopfhinnamhoiaa

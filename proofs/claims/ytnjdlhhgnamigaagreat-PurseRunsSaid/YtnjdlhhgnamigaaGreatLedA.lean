/- Walk: ledgers: encodings; small words; clones; entries. -/
import Derived.WalkLawsBesides
import Derived.Test.YtnjdlhhgnamigaaGreatAllA
import Derived.Test.YtnjdlhhgnamigaaGreatTooA
namespace Go.Pu
def Bag.enc (b : Bag) : List Value := [.int .i64 b.window, .int .i64 b.sl, .int .i64 b.written, .int .i64 b.holds, .int .i64 b.now, .bool b.opened]
def Bag.val (b : Bag) : Value := .agg #[.int .i64 b.window, .int .i64 b.sl, .int .i64 b.written, .int .i64 b.holds, .int .i64 b.now, .bool b.opened]
def Dif.enc (d : Dif) : List Value := [.int .i64 d.bag, .int .i64 d.less, .bool d.broken]
def Dif.val (d : Dif) : Value := .agg #[.int .i64 d.bag, .int .i64 d.less, .bool d.broken]
def Ent.enc (x : Int × Nat) : List Value := [.int .u8 x.1, .func (.func x.2) #[] #[]]
def Ent.val (x : Int × Nat) : Value := .agg #[.int .u8 x.1, .func (.func x.2) #[] #[]]
def Act.val (a : Act) : Value := .agg #[.int .u8 a.kind, .int .i64 a.window, .int .i64 a.bag, .int .i64 a.sl, .int .i64 a.amount, .int .i64 a.written]
def Act.enc (a : Act) : List Value := [.int .u8 a.kind, .int .i64 a.window, .int .i64 a.bag, .int .i64 a.sl, .int .i64 a.amount, .int .i64 a.written]
theorem bag_len (x : Bag) : (Bag.enc x).length = 6 := rfl
theorem dif_len (x : Dif) : (Dif.enc x).length = 3 := rfl
theorem act_len (x : Act) : (Act.enc x).length = 6 := rfl
theorem bag_one (x : Bag) : ∀ u ∈ Bag.enc x, u.oneCell' = true := by intro u hu; simp [Bag.enc] at hu; rcases hu with rfl | rfl | rfl | rfl | rfl | rfl <;> rfl
theorem dif_one (x : Dif) : ∀ u ∈ Dif.enc x, u.oneCell' = true := by intro u hu; simp [Dif.enc] at hu; rcases hu with rfl | rfl | rfl <;> rfl
theorem act_one (x : Act) : ∀ u ∈ Act.enc x, u.oneCell' = true := by intro u hu; simp [Act.enc] at hu; rcases hu with rfl | rfl | rfl | rfl | rfl | rfl <;> rfl
end Go.Pu
namespace Go.Bs
open Go.RowKit Go.Pl
section
variable {α : Type} {w w' : World} {A : Option Addr} {sz : Nat} {enc : α → List Value} {l : List α}
theorem Cells.at6 {enc : α → List Value} (h : Cells w A 6 enc l) {k : Nat} (hk : k < l.length) {v0 v1 v2 v3 v4 v5 : Value} (he : enc l[k] = [v0, v1, v2, v3, v4, v5]) :
    ∃ b off, A = some ⟨b, off, none⟩ ∧ b < w.heap.size ∧ w.cell? ⟨b, off + k * 6, none⟩ = some v0 ∧ w.cell? ⟨b, off + k * 6 + 1, none⟩ = some v1 ∧ w.cell? ⟨b, off + k * 6 + 2, none⟩ = some v2 ∧ w.cell? ⟨b, off + k * 6 + 3, none⟩ = some v3 ∧ w.cell? ⟨b, off + k * 6 + 4, none⟩ = some v4 ∧ w.cell? ⟨b, off + k * 6 + 5, none⟩ = some v5 := by
  obtain ⟨b, off, hA, hc⟩ := h.at hk
  rw [he] at hc
  have h0 := hc 0 v0 rfl
  exact ⟨b, off, hA, cell_lt h0, h0, hc 1 v1 rfl, hc 2 v2 rfl, hc 3 v3 rfl, hc 4 v4 rfl, hc 5 v5 rfl⟩
end
end Go.Bs
namespace Go.Proofs.YtnjdlhhgnamigaaGreat
open Go.RowKit Go.Bs Go.Pu Go.Pl Go.Sort

theorem et78 : ElemT Tryz.prog 31 80 6 48 := ElemT.mk (z := .agg #[.int .i64 0, .int .i64 0, .int .i64 0, .int .i64 0, .int .i64 0, .bool false]) Tryz.underlying31 (by kernel_rfl) rfl
theorem et79 : ElemT Tryz.prog 32 76 3 24 := ElemT.mk (z := .agg #[.int .i64 0, .int .i64 0, .bool false]) Tryz.underlying32 (by kernel_rfl) rfl
theorem seal_any (n : Int) (w : World) : Calls Tryz.prog 77 #[.int .i64 n] w fun e w' => e = .returned (.bool (sealB n)) ∧ w = w' := by
  unfold sealB
  have Hc := Lib.hid (within_any n 1 1000000 w)
  generalize decide (1 ≤ n ∧ n ≤ 1000000) = q at *
  go_enter Tryz.func77, Tryz.ntmps77
  go_wp2_with fail
  refine Hc.out.mono ?_; rintro e w1 ⟨rfl, rfl⟩
  go_wp2
  go_ret
  exact ⟨rfl, rfl⟩
theorem broken_any (b : Bag) (w : World) : Calls Tryz.prog 52 #[Bag.val b] w fun e w' => e = .returned (.bool b.broken) ∧ Below w.heap.size w w' := by
  obtain ⟨x0, x1, x2, x3, x4, x5⟩ := b
  unfold Bag.val Bag.broken
  go_enter Tryz.func52, Tryz.ntmps52
  go_wp2
  go_ret
  exact ⟨rfl, ext_alloc _ _⟩
theorem has_any (b : Bag) (s : Int) (w : World) : Calls Tryz.prog 96 #[Bag.val b, .int .i64 s] w fun e w' => e = .returned (.bool (b.has s)) ∧ Below w.heap.size w w' := by
  obtain ⟨x0, x1, x2, x3, x4, x5⟩ := b
  unfold Bag.val Bag.has
  simp only
  by_cases h : x1 = s
  · have h1 : (x1 == s) = true := by simp [h]
    rw [h1]
    go_enter Tryz.func96, Tryz.ntmps96
    go_wp2
    go_ret
    exact ⟨rfl, ext_alloc _ _⟩
  · have h1 : (x1 == s) = false := by simp [h]
    rw [h1]
    go_enter Tryz.func96, Tryz.ntmps96
    go_wp2
    go_ret
    exact ⟨rfl, ext_alloc _ _⟩
theorem ask_t (e : Int) (w : World) : Calls Tryz.prog 101 #[.bool true, .int .i64 e] w fun r w' => r = .returned (.tuple #[]) ∧ w = w' := by
  go_enter Tryz.func101, Tryz.ntmps101
  go_wp2
  go_end0
  exact ⟨rfl, rfl⟩
/-- what a refusal throws -/
def refused (e : Int) : List PanicEntry := [{ v := .iface 114 (.agg #[.int .i64 e]), recovered := false }]
theorem ask_f (e : Int) (w : World) : Calls Tryz.prog 101 #[.bool false, .int .i64 e] w fun r w' => r = .panicked (refused e) ∧ w = w' := by
  go_enter Tryz.func101, Tryz.ntmps101
  go_wp2
  exact ⟨rfl, rfl, rfl⟩
set_option maxHeartbeats 800000 in
theorem index_dif (g : Nat) (lb : Array Value) (p : (Dif) → Bool) (A : Option Addr) (n cap : Nat) (l : List (Dif)) (w : World) (eg : Enters Tryz.prog g) (hn : l.length = n) (hm : n ≤ 9223372036854775807) (hd : Cells w A 3 Dif.enc l)
    (hp : PredB Tryz.prog g lb Dif.val p w l) :
    Calls Tryz.prog 95 #[.slice A n cap, .func (.func g) #[] lb] w fun e w' => e = .returned (.int .i64 (idxF p l)) ∧ Below w.heap.size w w' := by
  have Hn := Lib.hid hn
  clear hn
  generalize hres : idxF p l = res
  have Hres := Lib.hid hres
  clear hres
  unfold Enters at eg
  go_enter Tryz.func95, Tryz.ntmps95
  go_wp2
  go_loopw [5, 8] (fun _ t wr => ∃ (k : Nat), k ≤ n ∧ t = .int .i64 k ∧ Hid (∀ x ∈ l.take k, p x = false) ∧ Below w.heap.size w wr) (fun _ t _ => n - (intOf t).toNat)
  case atStart => exact ⟨0, by omega, rfl, Lib.hid (by simp), Below.refl _ _⟩
  case round =>
    obtain ⟨k, hk, rfl, Hk, hb⟩ := hrel
    by_cases hlt : k < n
    · have hk1 : k < l.length := by rw [Hn.out]; exact hlt
      obtain ⟨b, off, rfl, hbl, c0, c1, c2⟩ := (hd.ext hb).at3 hk1 rfl
      have hc := hp wr l[k] (List.getElem_mem _) hb
      have hz : (0 : Int) ≤ k := by omega
      cases hq : p l[k]
      · rw [hq] at hc
        have Hq := Lib.hid hq
        have Hc := Lib.hid hc
        clear hc hq hp
        go_wp2_with fail
        refine Hc.out.mono ?_; rintro e w1 ⟨rfl, hb1⟩
        go_wp2
        go_roundw
        case rel => exact ⟨k + 1, by omega, by go_num, Lib.hid (fun x hx => by
          rw [List.take_succ_eq_append_getElem hk1] at hx
          rcases List.mem_append.1 hx with hx | hx
          · exact Hk.out x hx
          · simp at hx; rw [hx]; exact Hq.out), ext_trans hb hb1⟩
        case measure => simp [intOf]; omega
      · rw [hq] at hc
        have Hq := Lib.hid hq
        have Hc := Lib.hid hc
        clear hc hq hp
        go_wp2_with fail
        refine Hc.out.mono ?_; rintro e w1 ⟨rfl, hb1⟩
        go_wp2
        go_ret
        exact ⟨ret_congr (int_congr (by rw [← Hres.out, idxF_hit hk1 Hq.out Hk.out])), ext_trans hb hb1⟩
    · go_wp2
      go_ret
      exact ⟨ret_congr (int_congr (by rw [← Hres.out, idxF_miss (fun x hx => Hk.out x (by rw [List.take_of_length_le (by rw [Hn.out]; omega)]; exact hx))])), hb⟩

set_option maxHeartbeats 800000 in
theorem contains_dif (g : Nat) (lb : Array Value) (p : (Dif) → Bool) (A : Option Addr) (n cap : Nat) (l : List (Dif)) (w : World) (eg : Enters Tryz.prog g) (hn : l.length = n) (hm : n ≤ 9223372036854775807) (hd : Cells w A 3 Dif.enc l)
    (hp : PredB Tryz.prog g lb Dif.val p w l) :
    Calls Tryz.prog 75 #[.slice A n cap, .func (.func g) #[] lb] w fun e w' => e = .returned (.bool (l.any p)) ∧ Below w.heap.size w w' := by
  have hc := index_dif g lb p A n cap l w eg hn hm hd hp
  rw [← idxF_nonneg]
  generalize idxF p l = x at *
  have Hc := Lib.hid hc
  clear hc hp hn hd eg
  go_enter Tryz.func75, Tryz.ntmps75
  go_wp2_with fail
  refine Hc.out.mono ?_; rintro e w1 ⟨rfl, hb1⟩
  go_wp2
  go_ret
  exact ⟨rfl, hb1⟩

set_option maxHeartbeats 800000 in
theorem index_ent (g : Nat) (lb : Array Value) (p : (Int × Nat) → Bool) (A : Option Addr) (n cap : Nat) (l : List (Int × Nat)) (w : World) (eg : Enters Tryz.prog g) (hn : l.length = n) (hm : n ≤ 9223372036854775807) (hd : Cells w A 2 Ent.enc l)
    (hp : PredB Tryz.prog g lb Ent.val p w l) :
    Calls Tryz.prog 53 #[.slice A n cap, .func (.func g) #[] lb] w fun e w' => e = .returned (.int .i64 (idxF p l)) ∧ Below w.heap.size w w' := by
  have Hn := Lib.hid hn
  clear hn
  generalize hres : idxF p l = res
  have Hres := Lib.hid hres
  clear hres
  unfold Enters at eg
  go_enter Tryz.func53, Tryz.ntmps53
  go_wp2
  go_loopw [5, 8] (fun _ t wr => ∃ (k : Nat), k ≤ n ∧ t = .int .i64 k ∧ Hid (∀ x ∈ l.take k, p x = false) ∧ Below w.heap.size w wr) (fun _ t _ => n - (intOf t).toNat)
  case atStart => exact ⟨0, by omega, rfl, Lib.hid (by simp), Below.refl _ _⟩
  case round =>
    obtain ⟨k, hk, rfl, Hk, hb⟩ := hrel
    by_cases hlt : k < n
    · have hk1 : k < l.length := by rw [Hn.out]; exact hlt
      obtain ⟨b, off, rfl, hbl, c0, c1⟩ := (hd.ext hb).at2 hk1 rfl
      have hc := hp wr l[k] (List.getElem_mem _) hb
      have hz : (0 : Int) ≤ k := by omega
      cases hq : p l[k]
      · rw [hq] at hc
        have Hq := Lib.hid hq
        have Hc := Lib.hid hc
        clear hc hq hp
        go_wp2_with fail
        refine Hc.out.mono ?_; rintro e w1 ⟨rfl, hb1⟩
        go_wp2
        go_roundw
        case rel => exact ⟨k + 1, by omega, by go_num, Lib.hid (fun x hx => by
          rw [List.take_succ_eq_append_getElem hk1] at hx
          rcases List.mem_append.1 hx with hx | hx
          · exact Hk.out x hx
          · simp at hx; rw [hx]; exact Hq.out), ext_trans hb hb1⟩
        case measure => simp [intOf]; omega
      · rw [hq] at hc
        have Hq := Lib.hid hq
        have Hc := Lib.hid hc
        clear hc hq hp
        go_wp2_with fail
        refine Hc.out.mono ?_; rintro e w1 ⟨rfl, hb1⟩
        go_wp2
        go_ret
        exact ⟨ret_congr (int_congr (by rw [← Hres.out, idxF_hit hk1 Hq.out Hk.out])), ext_trans hb hb1⟩
    · go_wp2
      go_ret
      exact ⟨ret_congr (int_congr (by rw [← Hres.out, idxF_miss (fun x hx => Hk.out x (by rw [List.take_of_length_le (by rw [Hn.out]; omega)]; exact hx))])), hb⟩




set_option maxRecDepth 100000 in
theorem clone_int (A : Option Addr) (n c : Nat) (l : List Int) (w : World) (hn : l.length = n) (hm : n ≤ 1000000) (hd : Cells w A 1 encI l) :
    Calls Tryz.prog 26 #[.slice A n c] w fun e w' => ∃ v, e = .returned v ∧ OwnL w' w.heap.size 3 1 encI v l ∧ Below w.heap.size w w' := by
  cases A with
  | none =>
    have h0 : l = [] := by
      cases l with
      | nil => rfl
      | cons x l => obtain ⟨b, off, h, -⟩ := hd.at (k := 0) (by simp); cases h
    subst h0
    obtain rfl : n = 0 := by simpa using hn.symm
    have he : ∀ w, (binOp .eql 22 (.slice none 0 c) (.slice none 0 0)).run Tryz.prog w = .ok (.bool true) w := fun _ => by kernel_rfl
    go_enter Tryz.func26, Tryz.ntmps26
    go_wp2
    go_ret
    exact ⟨_, rfl, OwnL.nil, Below.refl _ _⟩
  | some a =>
    have hb0 := ext_alloc w (.cells #[] 3)
    have he : ∀ w, (binOp .eql 22 (.slice (some a) n c) (.slice none 0 0)).run Tryz.prog w = .ok (.bool false) w := fun _ => by kernel_rfl
    have hd1 := hd.ext hb0
    have ho := own_new w 3 1 encI
    clear hd
    go_enter Tryz.func26, Tryz.ntmps26
    go_wp2_with (at_builtin; refine app_rows encI 22 3 1 8 et27 (by decide) (by decide) encI_len encI_one rfl _ _ rfl w.heap.size _ [] rfl ho (some a) n c l hn rfl hd1 (by simp; omega) (by simp) ?_; intro v' w' hown hb _ _)
    go_ret
    exact ⟨_, rfl, by simpa using hown, hb0.trans hb⟩

set_option maxRecDepth 100000 in
theorem clone_bag (A : Option Addr) (n c : Nat) (l : List Bag) (w : World) (hn : l.length = n) (hm : n ≤ 1000000) (hd : Cells w A 6 Bag.enc l) :
    Calls Tryz.prog 27 #[.slice A n c] w fun e w' => ∃ v, e = .returned v ∧ OwnL w' w.heap.size 80 6 Bag.enc v l ∧ Below w.heap.size w w' := by
  cases A with
  | none =>
    have h0 : l = [] := by
      cases l with
      | nil => rfl
      | cons x l => obtain ⟨b, off, h, -⟩ := hd.at (k := 0) (by simp); cases h
    subst h0
    obtain rfl : n = 0 := by simpa using hn.symm
    have he : ∀ w, (binOp .eql 31 (.slice none 0 c) (.slice none 0 0)).run Tryz.prog w = .ok (.bool true) w := fun _ => by kernel_rfl
    go_enter Tryz.func27, Tryz.ntmps27
    go_wp2
    go_ret
    exact ⟨_, rfl, OwnL.nil, Below.refl _ _⟩
  | some a =>
    have hb0 := ext_alloc w (.cells #[] 80)
    have he : ∀ w, (binOp .eql 31 (.slice (some a) n c) (.slice none 0 0)).run Tryz.prog w = .ok (.bool false) w := fun _ => by kernel_rfl
    have hd1 := hd.ext hb0
    have ho := own_new w 80 6 Bag.enc
    clear hd
    go_enter Tryz.func27, Tryz.ntmps27
    go_wp2_with (at_builtin; refine app_rows Bag.enc 31 80 6 48 et78 (by decide) (by decide) bag_len bag_one rfl _ _ rfl w.heap.size _ [] rfl ho (some a) n c l hn rfl hd1 (by simp; omega) (by simp) ?_; intro v' w' hown hb _ _)
    go_ret
    exact ⟨_, rfl, by simpa using hown, hb0.trans hb⟩

set_option maxRecDepth 100000 in
theorem clone_dif (A : Option Addr) (n c : Nat) (l : List Dif) (w : World) (hn : l.length = n) (hm : n ≤ 1000000) (hd : Cells w A 3 Dif.enc l) :
    Calls Tryz.prog 28 #[.slice A n c] w fun e w' => ∃ v, e = .returned v ∧ OwnL w' w.heap.size 76 3 Dif.enc v l ∧ Below w.heap.size w w' := by
  cases A with
  | none =>
    have h0 : l = [] := by
      cases l with
      | nil => rfl
      | cons x l => obtain ⟨b, off, h, -⟩ := hd.at (k := 0) (by simp); cases h
    subst h0
    obtain rfl : n = 0 := by simpa using hn.symm
    have he : ∀ w, (binOp .eql 32 (.slice none 0 c) (.slice none 0 0)).run Tryz.prog w = .ok (.bool true) w := fun _ => by kernel_rfl
    go_enter Tryz.func28, Tryz.ntmps28
    go_wp2
    go_ret
    exact ⟨_, rfl, OwnL.nil, Below.refl _ _⟩
  | some a =>
    have hb0 := ext_alloc w (.cells #[] 76)
    have he : ∀ w, (binOp .eql 32 (.slice (some a) n c) (.slice none 0 0)).run Tryz.prog w = .ok (.bool false) w := fun _ => by kernel_rfl
    have hd1 := hd.ext hb0
    have ho := own_new w 76 3 Dif.enc
    clear hd
    go_enter Tryz.func28, Tryz.ntmps28
    go_wp2_with (at_builtin; refine app_rows Dif.enc 32 76 3 24 et79 (by decide) (by decide) dif_len dif_one rfl _ _ rfl w.heap.size _ [] rfl ho (some a) n c l hn rfl hd1 (by simp; omega) (by simp) ?_; intro v' w' hown hb _ _)
    go_ret
    exact ⟨_, rfl, by simpa using hown, hb0.trans hb⟩

/-- what an act of a kind does: the function's number -/
def entL : List (Int × Nat) := [(1, 79), (2, 80), (3, 81), (4, 82), (5, 83), (6, 84), (7, 85), (8, 86)]
theorem entries_any (w : World) : Calls Tryz.prog 54 #[] w fun e w' => ∃ g, e = .returned (.slice (some ⟨g, 0, none⟩) 8 8) ∧ Cells w' (some ⟨g, 0, none⟩) 2 Ent.enc entL ∧ w.heap.size ≤ g ∧ Below w.heap.size w w' := by
  go_enter Tryz.func54, Tryz.ntmps54
  go_wp2
  go_ret
  exact ⟨w.heap.size, rfl, cells_new w 110 2 Ent.enc (fun _ => rfl) entL, Nat.le_refl _, ext_alloc _ _⟩
end Go.Proofs.YtnjdlhhgnamigaaGreat

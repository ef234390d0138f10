/- Walks: rigging: all, within; the log of one gear with one entry: CheckLog, record, stale, Until. (Printed by mk_unta.py.) -/
import Derived.Shelf.Abstract
import Derived.Deep.DeepCutAuto
import Derived.Deep.CutBlock
import Derived.Deep.CutRange
import Derived.Maps.RangeWalk
import Derived.Laws.EntriesVeiled
import Derived.Test.YtilkoooahoecfaaGreatTooA
import Derived.Test.YtilkoooahoecfaaGreatProg
namespace Go.Rg
open Go.RowKit Go.Bs
structure Gr where
  days : Int
  hours : Int
def Gr.enc (x : Gr) : List Value := [.int .i64 x.days, .int .i64 x.hours]
def Gr.val (x : Gr) : Value := .agg #[.int .i64 x.days, .int .i64 x.hours]
def rbtw (n lo hi : Int) : Bool := decide (lo ≤ n ∧ n ≤ hi)
/-- what is asked of a function value that a function is handed -/
def PredR {α : Type} (P : Program) (g : Nat) (fa lb : Array Value) (encv : α → Value) (p : α → Bool) (w : World) (l : List α) : Prop :=
  ∀ (W : World) (x : α), x ∈ l → Below w.heap.size w W → Calls P g (fa ++ #[encv x] ++ lb) W fun e w' => e = .returned (.bool (p x)) ∧ Below W.heap.size W w'
theorem PredR.later {α : Type} {P : Program} {g : Nat} {fa lb : Array Value} {encv : α → Value} {p : α → Bool} {w W : World} {l : List α} (h : PredR P g fa lb encv p w l) (hb : Below w.heap.size w W) : PredR P g fa lb encv p W l :=
  fun W' x hx hb' => h W' x hx (ext_trans hb hb')
/-- the days behind which a gear is stale -/
def untl (d h r : Int) : Nat → Nat → Nat
  | 0, j => j
  | f + 1, j => if d < j ∨ h < (j + 1) * r then j else untl d h r f (j + 1)
theorem untl_spec (d h r : Int) (hd : 0 ≤ d) : ∀ (f j : Nat), d < (j : Int) + f → (∀ i, j ≤ i → i < untl d h r f j → ¬ (d < i ∨ h < ((i : Int) + 1) * r)) ∧ (d < untl d h r f j ∨ h < ((untl d h r f j : Int) + 1) * r) ∧ j ≤ untl d h r f j
  | 0, j, hj => ⟨fun i h1 h2 => by unfold untl at h2; omega, .inl (by unfold untl; simp at hj; exact hj), by unfold untl; omega⟩
  | f + 1, j, hj => by
    unfold untl
    by_cases hc : d < j ∨ h < ((j : Int) + 1) * r
    · rw [if_pos hc]
      exact ⟨fun i h1 h2 => by omega, hc, Nat.le_refl _⟩
    · rw [if_neg hc]
      obtain ⟨h1, h2, h3⟩ := untl_spec d h r hd f (j + 1) (by omega)
      refine ⟨fun i hi1 hi2 => ?_, h2, by omega⟩
      by_cases e : i = j
      · rw [e]; exact hc
      · exact h1 i (by omega) hi2
/-- the first day on which it is stale, counted from the day of its inspection -/
def untD (d h r : Int) : Nat := untl d h r (d.toNat + 1) 0
theorem untD_spec {d h r : Int} (hd : 0 ≤ d) : (∀ i : Nat, i < untD d h r → (i : Int) ≤ d ∧ ((i : Int) + 1) * r ≤ h) ∧ (d < untD d h r ∨ h < ((untD d h r : Int) + 1) * r) := by
  obtain ⟨h1, h2, -⟩ := untl_spec d h r hd (d.toNat + 1) 0 (by omega)
  exact ⟨fun i hi => by have := h1 i (by omega) hi; omega, h2⟩
theorem untD_le {d h r : Int} (hd : 0 ≤ d) : (untD d h r : Int) ≤ d + 1 := by
  have h1 := (untD_spec (h := h) (r := r) hd).1
  by_cases h0 : untD d h r = 0
  · omega
  · have := (h1 (untD d h r - 1) (by omega)).1
    omega
theorem untD_mono {d h r1 r2 : Int} (hd : 0 ≤ d) (hr : r2 ≤ r1) : untD d h r1 ≤ untD d h r2 := by
  have h1 := (untD_spec (h := h) (r := r1) hd).1
  have h2 := (untD_spec (h := h) (r := r2) hd).2
  rcases Nat.lt_or_ge (untD d h r2) (untD d h r1) with hlt | hge
  · have h3 := h1 _ hlt
    have h4 : ((untD d h r2 : Int) + 1) * r2 ≤ ((untD d h r2 : Int) + 1) * r1 := Int.mul_le_mul_of_nonneg_left hr (by omega)
    omega
  · exact hge
end Go.Rg
namespace Go.Proofs.YtilkoooahoecfaaGreat.Rg
open Go.RowKit Go.Bs Go.Pl Go.Sort Go.Rg
theorem rwithin_any (n lo hi : Int) (w : World) :
    Calls Tryz.prog 17 #[.int .i64 n, .int .i64 lo, .int .i64 hi] w fun e w' => e = .returned (.bool (rbtw n lo hi)) ∧ w = w' := by
  unfold rbtw
  generalize hres : decide (lo ≤ n ∧ n ≤ hi) = res
  have Hres := Lib.hid hres
  clear hres
  by_cases h : lo ≤ n
  · go_enter Tryz.func17, Tryz.ntmps17
    go_wp2
    go_ret
    exact ⟨ret_congr (bool_congr (by rw [← Hres.out]; simp [h])), rfl⟩
  · go_enter Tryz.func17, Tryz.ntmps17
    go_wp2
    go_ret
    exact ⟨ret_congr (bool_congr (by rw [← Hres.out]; simp; omega)), rfl⟩
theorem rwithin_t {n lo hi : Int} (h : lo ≤ n ∧ n ≤ hi) (w : World) : Calls Tryz.prog 17 #[.int .i64 n, .int .i64 lo, .int .i64 hi] w fun e w' => e = .returned (.bool true) ∧ w = w' := by
  have := rwithin_any n lo hi w
  rwa [show rbtw n lo hi = true from decide_eq_true h] at this

set_option maxHeartbeats 800000 in
theorem index_gr (g : Nat) (fa lb : Array Value) (p : (Gr) → Bool) (A : Option Addr) (n cap : Nat) (l : List (Gr)) (w : World) (eg : Enters Tryz.prog g) (hn : l.length = n) (hm : n ≤ 9223372036854775807) (hd : Cells w A 2 Gr.enc l)
    (hp : PredR Tryz.prog g fa lb Gr.val p w l) :
    Calls Tryz.prog 82 #[.slice A n cap, .func (.func g) fa lb] w fun e w' => e = .returned (.int .i64 (idxF p l)) ∧ Below w.heap.size w w' := by
  have Hn := Lib.hid hn
  clear hn
  generalize hres : idxF p l = res
  have Hres := Lib.hid hres
  clear hres
  unfold Enters at eg
  go_enter Tryz.func82, Tryz.ntmps82
  go_wp2
  go_loopw [5, 8] (fun _ t wr => ∃ (k : Nat), k ≤ n ∧ t = .int .i64 k ∧ Hid (∀ x ∈ l.take k, p x = false) ∧ Below w.heap.size w wr) (fun _ t _ => n - (intOf t).toNat)
  case atStart => exact ⟨0, by omega, rfl, Lib.hid (by simp), Below.refl _ _⟩
  case round =>
    obtain ⟨k, hk, rfl, Hk, hb⟩ := hrel
    by_cases hlt : k < n
    · have hk1 : k < l.length := by rw [Hn.out]; exact hlt
      obtain ⟨b, off, rfl, hbl, c0, c1⟩ := (hd.ext hb).at2 hk1 rfl
      have hc := hp wr l[k] (List.getElem_mem _) hb
      have hz : (0 : Int) ≤ k := by omega
      cases hq : p l[k]
      · rw [hq] at hc
        have Hq := Lib.hid hq
        have Hc := Lib.hid hc
        clear hc hq hp
        go_wp2_with fail
        refine Hc.out.mono ?_; rintro e w1 ⟨rfl, hb1⟩
        go_wp2
        go_roundw
        case rel => exact ⟨k + 1, by omega, by go_num, Lib.hid (fun x hx => by
          rw [List.take_succ_eq_append_getElem hk1] at hx
          rcases List.mem_append.1 hx with hx | hx
          · exact Hk.out x hx
          · simp at hx; rw [hx]; exact Hq.out), ext_trans hb hb1⟩
        case measure => simp [intOf]; omega
      · rw [hq] at hc
        have Hq := Lib.hid hq
        have Hc := Lib.hid hc
        clear hc hq hp
        go_wp2_with fail
        refine Hc.out.mono ?_; rintro e w1 ⟨rfl, hb1⟩
        go_wp2
        go_ret
        exact ⟨ret_congr (int_congr (by rw [← Hres.out, idxF_hit hk1 Hq.out Hk.out])), ext_trans hb hb1⟩
    · go_wp2
      go_ret
      exact ⟨ret_congr (int_congr (by rw [← Hres.out, idxF_miss (fun x hx => Hk.out x (by rw [List.take_of_length_le (by rw [Hn.out]; omega)]; exact hx))])), hb⟩

theorem contains_gr (g : Nat) (fa lb : Array Value) (p : (Gr) → Bool) (A : Option Addr) (n cap : Nat) (l : List (Gr)) (w : World) (eg : Enters Tryz.prog g) (hn : l.length = n) (hm : n ≤ 9223372036854775807) (hd : Cells w A 2 Gr.enc l)
    (hp : PredR Tryz.prog g fa lb Gr.val p w l) :
    Calls Tryz.prog 55 #[.slice A n cap, .func (.func g) fa lb] w fun e w' => e = .returned (.bool (l.any p)) ∧ Below w.heap.size w w' := by
  have hc := index_gr g fa lb p A n cap l w eg hn hm hd hp
  rw [← idxF_nonneg]
  generalize idxF p l = x at *
  have Hc := Lib.hid hc
  clear hc hp hn hd eg
  go_enter Tryz.func55, Tryz.ntmps55
  go_wp2_with fail
  refine Hc.out.mono ?_; rintro e w1 ⟨rfl, hb1⟩
  go_wp2
  go_ret
  exact ⟨rfl, hb1⟩

theorem not_gr (g : Nat) (fa lb : Array Value) (p : (Gr) → Bool) (l : List (Gr)) (w : World) (B : Nat) (eg : Enters Tryz.prog g) (hB : w.cell? ⟨B, 0, none⟩ = some (.func (.func g) fa lb))
    (hp : PredR Tryz.prog g fa lb Gr.val p w l) : PredR Tryz.prog 56 #[] #[.pointer (some ⟨B, 0, none⟩)] Gr.val (fun x => !p x) w l := by
  intro W x hx hb
  have hB' := cell_ext hB hb
  have hlt := cell_lt hB'
  unfold Enters at eg
  have hc := hp _ x hx (ext_trans hb (ext_alloc W (.cells #[.int .i64 x.days, .int .i64 x.hours] 42)))
  show Calls Tryz.prog 56 #[.agg #[.int .i64 x.days, .int .i64 x.hours], .pointer (some ⟨B, 0, none⟩)] W fun e w' => e = .returned (.bool (!p x)) ∧ Below W.heap.size W w'
  generalize p x = q at *
  have Hc := Lib.hid hc
  clear hc hp hB
  go_enter Tryz.func56, Tryz.ntmps56
  go_wp2_with fail
  refine Hc.out.mono ?_; rintro e w1 ⟨rfl, hb1⟩
  go_wp2
  go_ret
  exact ⟨rfl, ext_trans (ext_alloc _ _) hb1⟩

theorem all_gr (g : Nat) (fa lb : Array Value) (p : (Gr) → Bool) (A : Option Addr) (n cap : Nat) (l : List (Gr)) (w : World) (eg : Enters Tryz.prog g) (hn : l.length = n) (hm : n ≤ 9223372036854775807) (hd : Cells w A 2 Gr.enc l)
    (hp : PredR Tryz.prog g fa lb Gr.val p w l) :
    Calls Tryz.prog 31 #[.slice A n cap, .func (.func g) fa lb] w fun e w' => e = .returned (.bool (l.all p)) ∧ Below w.heap.size w w' := by
  have hb0 := ext_alloc w (.cells #[.func (.func g) fa lb] 88)
  have hc := contains_gr 56 #[] #[.pointer (some ⟨w.heap.size, 0, none⟩)] (fun x => !p x) A n cap l _ (enters_of Tryz.func56 (by kernel_rfl) rfl) hn hm (hd.ext hb0) (not_gr g fa lb p l _ w.heap.size eg (by simp) (hp.later hb0))
  rw [← any_not]
  generalize (l.any fun x => !p x) = q at *
  have Hc := Lib.hid hc
  clear hc hp hn hd eg hb0
  go_enter Tryz.func31, Tryz.ntmps31
  go_wp2_with fail
  refine Hc.out.mono ?_; rintro e w1 ⟨rfl, hb1⟩
  go_wp2
  go_ret
  exact ⟨rfl, ext_trans (ext_alloc _ _) hb1⟩

theorem gear_ok (x : Gr) (w : World) (h1 : 1 ≤ x.days ∧ x.days ≤ 2000) (h2 : 1 ≤ x.hours ∧ x.hours ≤ 20000) : PredR Tryz.prog 32 #[] #[] Gr.val (fun _ => true) w [x] := by
  intro W y hy hb
  rw [List.mem_singleton.1 hy]
  obtain ⟨d, h⟩ := x
  simp only at h1 h2
  have C1 := Lib.hid (fun V => rwithin_t h1 V)
  have C2 := Lib.hid (fun V => rwithin_t h2 V)
  have hx := ext_alloc W (.cells #[.int .i64 d, .int .i64 h] 42)
  clear h1 h2
  show Calls Tryz.prog 32 #[.agg #[.int .i64 d, .int .i64 h]] W fun e w' => e = .returned (.bool true) ∧ Below W.heap.size W w'
  go_enter Tryz.func32, Tryz.ntmps32
  go_wp2_with fail
  refine (C1.out _).mono ?_; rintro e w1 ⟨rfl, rfl⟩
  go_wp2_with fail
  refine (C2.out _).mono ?_; rintro e w1 ⟨rfl, rfl⟩
  go_wp2
  go_ret
  exact ⟨rfl, hx⟩
/-- the one entry: L: the box of the last day; G: that of the gear -/
theorem entry_ok (day : Int) (L G : Nat) (g : Option Addr) (c : Nat) (W : World) (hL : Blk W L 3 [.int .i64 0]) (hG : Blk W G 43 [.slice g 1 c]) (_ : L ≠ G) (hd : 0 ≤ day ∧ day ≤ 10000) :
    Calls Tryz.prog 33 #[.agg #[.int .i64 day, .int .i64 0, .int .i64 0, .bool true], .pointer (some ⟨L, 0, none⟩), .pointer (some ⟨G, 0, none⟩)] W fun e w' => e = .returned (.bool true) ∧ Dr.Bel [L] W w' := by
  have C1 := Lib.hid (fun V => rwithin_t hd V)
  have C2 := Lib.hid (fun V => rwithin_t (show (0 : Int) ≤ 0 ∧ (0 : Int) ≤ 0 by omega) V)
  have C3 := Lib.hid (fun V => rwithin_t (show (0 : Int) ≤ 0 ∧ (0 : Int) ≤ 24 by omega) V)
  have hx := ext_alloc W (.cells #[.int .i64 day, .int .i64 0, .int .i64 0, .bool true] 45)
  have hE := Blk.new W 45 [.int .i64 day, .int .i64 0, .int .i64 0, .bool true]
  have hL1 := hL.ext hx
  have hG1 := hG.ext hx
  have hLl := hL.lt
  clear hL hG hd
  go_enter Tryz.func33, Tryz.ntmps33
  go_upto_region 1 with fail
  change Blk (W.alloc (.cells #[.int .i64 day, .int .i64 0, .int .i64 0, .bool true] 45)) _ _ _ at hE hL1 hG1
  generalize W.alloc (.cells #[.int .i64 day, .int .i64 0, .int .i64 0, .bool true] 45) = W1 at *
  have e0 : W1.cell? ⟨W.heap.size, 0, none⟩ = _ := hE.cell rfl
  have e1 : W1.cell? ⟨W.heap.size, 1, none⟩ = _ := hE.cell rfl
  have e2 : W1.cell? ⟨W.heap.size, 2, none⟩ = _ := hE.cell rfl
  have l0 : W1.cell? ⟨L, 0, none⟩ = _ := hL1.cell rfl
  have g0 : W1.cell? ⟨G, 0, none⟩ = _ := hG1.cell rfl
  have f0 := hL1.free 0
  have hlt := hL1.lt
  go_wp2_with fail
  refine (C1.out _).mono ?_; rintro e w1 ⟨rfl, rfl⟩
  go_wp2_with fail
  refine (C2.out _).mono ?_; rintro e w1 ⟨rfl, rfl⟩
  go_wp2_with fail
  refine (C3.out _).mono ?_; rintro e w1 ⟨rfl, rfl⟩
  go_wp2
  go_ret
  exact ⟨rfl, (Dr.Bel.of hx).trans (Dr.Bel.store (by simp) _)⟩
theorem entry_all (day : Int) (L G : Nat) (g : Option Addr) (c : Nat) (E : Option Addr) (cE : Nat) (W : World) (hL : Blk W L 3 [.int .i64 0]) (hG : Blk W G 43 [.slice g 1 c]) (hLG : L ≠ G) (hd : 0 ≤ day ∧ day ≤ 10000) (hE : ∃ b off, E = some ⟨b, off, none⟩ ∧ b ≠ L ∧ W.cell? ⟨b, off, none⟩ = some (.int .i64 day) ∧ W.cell? ⟨b, off + 1, none⟩ = some (.int .i64 0) ∧ W.cell? ⟨b, off + 2, none⟩ = some (.int .i64 0) ∧ W.cell? ⟨b, off + 3, none⟩ = some (.bool true)) :
    Calls Tryz.prog 34 #[.slice E 1 cE, .func (.func 33) #[] #[.pointer (some ⟨L, 0, none⟩), .pointer (some ⟨G, 0, none⟩)]] W fun e w' => e = .returned (.bool true) ∧ Dr.Bel [L] W w' := by
  obtain ⟨b, off, rfl, hbL, d0, d1, d2, d3⟩ := hE
  have hx := ext_alloc W (.cells #[.func (.func 33) #[] #[.pointer (some ⟨L, 0, none⟩), .pointer (some ⟨G, 0, none⟩)]] 89)
  have hF := Blk.new W 89 [.func (.func 33) #[] #[.pointer (some ⟨L, 0, none⟩), .pointer (some ⟨G, 0, none⟩)]]
  have hL1 := hL.ext hx
  have hG1 := hG.ext hx
  have hFL : W.heap.size ≠ L := by have := hL.lt; omega
  have H : Hid (∀ V, Below W.heap.size W V → Blk V W.heap.size 89 [.func (.func 33) #[] #[.pointer (some ⟨L, 0, none⟩), .pointer (some ⟨G, 0, none⟩)]] →
      Calls Tryz.prog 58 #[.agg #[.int .i64 day, .int .i64 0, .int .i64 0, .bool true], .pointer (some ⟨W.heap.size, 0, none⟩)] V fun e w' => e = .returned (.bool false) ∧ Dr.Bel [L] V w') := Lib.hid (by
    intro V hV hFV
    have hx2 := ext_alloc V (.cells #[.int .i64 day, .int .i64 0, .int .i64 0, .bool true] 45)
    have hE2 := Blk.new V 45 [.int .i64 day, .int .i64 0, .int .i64 0, .bool true]
    have C := Lib.hid (entry_ok day L G g c (V.alloc (.cells #[.int .i64 day, .int .i64 0, .int .i64 0, .bool true] 45)) ((hL.ext hV).ext hx2) ((hG.ext hV).ext hx2) hLG hd)
    have hF2 := hFV.ext hx2
    go_enter Tryz.func58, Tryz.ntmps58
    go_upto_region 1 with fail
    change Blk (V.alloc (.cells #[.int .i64 day, .int .i64 0, .int .i64 0, .bool true] 45)) _ _ _ at hE2 hF2
    have f0 : (V.alloc (.cells #[.int .i64 day, .int .i64 0, .int .i64 0, .bool true] 45)).cell? ⟨W.heap.size, 0, none⟩ = _ := hF2.cell rfl
    have e0 : (V.alloc (.cells #[.int .i64 day, .int .i64 0, .int .i64 0, .bool true] 45)).cell? ⟨V.heap.size, 0, none⟩ = _ := hE2.cell rfl
    have e1 : (V.alloc (.cells #[.int .i64 day, .int .i64 0, .int .i64 0, .bool true] 45)).cell? ⟨V.heap.size, 1, none⟩ = _ := hE2.cell rfl
    have e2 : (V.alloc (.cells #[.int .i64 day, .int .i64 0, .int .i64 0, .bool true] 45)).cell? ⟨V.heap.size, 2, none⟩ = _ := hE2.cell rfl
    have e3 : (V.alloc (.cells #[.int .i64 day, .int .i64 0, .int .i64 0, .bool true] 45)).cell? ⟨V.heap.size, 3, none⟩ = _ := hE2.cell rfl
    have eg := enters_of Tryz.func33 (by kernel_rfl) rfl
    unfold Enters at eg
    go_wp2_with fail
    refine C.out.mono ?_; rintro e w1 ⟨rfl, hb1⟩
    go_wp2
    go_ret
    exact ⟨rfl, (Dr.Bel.of hx2).trans hb1⟩)
  have HI : Hid (∀ V, Below W.heap.size W V → Blk V W.heap.size 89 [.func (.func 33) #[] #[.pointer (some ⟨L, 0, none⟩), .pointer (some ⟨G, 0, none⟩)]] →
      Calls Tryz.prog 83 #[.slice (some ⟨b, off, none⟩) 1 cE, .func (.func 58) #[] #[.pointer (some ⟨W.heap.size, 0, none⟩)]] V fun e w' => e = .returned (.int .i64 (-1)) ∧ Dr.Bel [L] V w') := Lib.hid (by
    intro V hV hFV
    have c0 := cell_ext d0 hV
    have c1 := cell_ext d1 hV
    have c2 := cell_ext d2 hV
    have c3 := cell_ext d3 hV
    have C := Lib.hid (H.out V hV hFV)
    have eg := enters_of Tryz.func58 (by kernel_rfl) rfl
    unfold Enters at eg
    go_enter Tryz.func83, Tryz.ntmps83
    go_wp2
    go_loopw [5, 8] (fun _ t wr => (t = .int .i64 0 ∧ V = wr) ∨ (t = .int .i64 1 ∧ Dr.Bel [L] V wr)) (fun _ t _ => 1 - (intOf t).toNat)
    case atStart => exact .inl ⟨rfl, rfl⟩
    case round =>
      rcases hrel with ⟨rfl, rfl⟩ | ⟨rfl, hb⟩
      · go_wp2_with fail
        refine C.out.mono ?_; rintro e w1 ⟨rfl, hb1⟩
        go_wp2
        go_roundw
        case rel => exact .inr ⟨rfl, hb1⟩
        case measure => simp [intOf]
      · go_wp2
        go_ret
        exact ⟨rfl, hb⟩)
  have HC : Hid (∀ V, Below W.heap.size W V → Blk V W.heap.size 89 [.func (.func 33) #[] #[.pointer (some ⟨L, 0, none⟩), .pointer (some ⟨G, 0, none⟩)]] →
      Calls Tryz.prog 57 #[.slice (some ⟨b, off, none⟩) 1 cE, .func (.func 58) #[] #[.pointer (some ⟨W.heap.size, 0, none⟩)]] V fun e w' => e = .returned (.bool false) ∧ Dr.Bel [L] V w') := Lib.hid (by
    intro V hV hFV
    have C := Lib.hid (HI.out V hV hFV)
    go_enter Tryz.func57, Tryz.ntmps57
    go_wp2_with fail
    refine C.out.mono ?_; rintro e w1 ⟨rfl, hb1⟩
    go_wp2
    go_ret
    exact ⟨rfl, hb1⟩)
  have C := Lib.hid (HC.out _ hx hF)
  go_enter Tryz.func34, Tryz.ntmps34
  go_wp2_with fail
  refine C.out.mono ?_; rintro e w1 ⟨rfl, hb1⟩
  go_wp2
  go_ret
  exact ⟨rfl, (Dr.Bel.of hx).trans hb1⟩
end Go.Proofs.YtilkoooahoecfaaGreat.Rg

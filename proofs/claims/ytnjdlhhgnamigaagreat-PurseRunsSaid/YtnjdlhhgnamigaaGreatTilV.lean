/- Walk: is a till valid? (The program's test keeps the last value in a cell that its closure writes.) -/
import Derived.Test.YtnjdlhhgnamigaaGreatSetC
namespace Go.Proofs.YtnjdlhhgnamigaaGreat
open Go.RowKit Go.Bs Go.Pu Go.Pl Go.Sort

/-- a predicate with a state: what holds before the i-th element -/
def StepB (g : Nat) (lb : Array Value) (M : List Nat) (l : List Int) (p : Nat → Bool) (S : Nat → World → Prop) (w : World) : Prop :=
  ∀ (i : Nat) (hi : i < l.length) (W : World), Dr.Bel M w W → S i W → Calls Tryz.prog g (#[.int .i64 l[i]] ++ lb) W fun e W' => e = .returned (.bool (p i)) ∧ Dr.Bel M W W' ∧ S (i + 1) W'
theorem range_take {n k : Nat} (h : k ≤ n) : (List.range n).take k = List.range k := by
  rw [List.take_range, Nat.min_eq_left h]

set_option maxHeartbeats 800000 in
theorem index_st (g : Nat) (lb : Array Value) (M : List Nat) (p : Nat → Bool) (S : Nat → World → Prop) (A : Option Addr) (n cap : Nat) (l : List Int) (w : World) (eg : Enters Tryz.prog g) (hn : l.length = n) (hm : n ≤ 1000000000) (hd : Cells w A 1 encI l) (hA : ∀ k, A.map (·.block) = some k → 0 < n → k ∉ M)
    (h0 : S 0 w) (hp : StepB g lb M l p S w) :
    Calls Tryz.prog 88 #[.slice A n cap, .func (.func g) #[] lb] w fun e w' => e = .returned (.int .i64 (idxF p (List.range n))) ∧ Dr.Bel M w w' := by
  have Hn := Lib.hid hn
  clear hn
  generalize hres : idxF p (List.range n) = res
  have Hres := Lib.hid hres
  clear hres
  unfold Enters at eg
  have H0 := Lib.hid h0
  have HA := Lib.hid hA
  clear h0 hA
  go_enter Tryz.func88, Tryz.ntmps88
  go_wp2
  go_loopw [5, 8] (fun _ t wr => ∃ (k : Nat), k ≤ n ∧ t = .int .i64 k ∧ Hid (∀ x, x < k → p x = false) ∧ Dr.Bel M w wr ∧ Hid (S k wr)) (fun _ t _ => n - (intOf t).toNat)
  case atStart => exact ⟨0, by omega, rfl, Lib.hid (fun x hx => by omega), Dr.Bel.refl _ _, Lib.hid H0.out⟩
  case round =>
    obtain ⟨k, hk, rfl, Hk, hb, HS⟩ := hrel
    by_cases hlt : k < n
    · have hk1 : k < l.length := by rw [Hn.out]; exact hlt
      obtain ⟨b, off, rfl, hbl, c0⟩ := (cells_bel hd hb (fun q hq => HA.out q hq (by omega))).at1 hk1 rfl
      have hc := hp k hk1 wr hb HS.out
      have hz : (0 : Int) ≤ k := by omega
      have hg : (List.range n)[k]'(by simpa using hlt) = k := by simp
      cases hq : p k
      · rw [hq] at hc
        have Hq := Lib.hid hq
        have Hc := Lib.hid hc
        clear hc hq hp hg
        go_wp2_with fail
        refine Hc.out.mono ?_; rintro e w1 ⟨rfl, hb1, hs1⟩
        have HS1 := Lib.hid hs1
        clear hs1
        go_wp2
        go_roundw
        case rel => exact ⟨k + 1, by omega, by go_num, Lib.hid (fun x hx => by
          rcases Nat.lt_or_ge x k with h | h
          · exact Hk.out x h
          · obtain rfl : x = k := by omega
            exact Hq.out), hb.trans hb1, HS1⟩
        case measure => simp [intOf]; omega
      · rw [hq] at hc
        have hix : idxF p (List.range n) = k := idxF_hit (by simpa using hlt) (by rw [hg]; exact hq) (fun x hx => by
          rw [range_take hk] at hx
          exact Hk.out x (by simpa using hx))
        rw [Hres.out] at hix
        have Hc := Lib.hid hc
        clear hc hq hp hg
        go_wp2_with fail
        refine Hc.out.mono ?_; rintro e w1 ⟨rfl, hb1, -⟩
        go_wp2
        go_ret
        exact ⟨ret_congr (int_congr hix.symm), hb.trans hb1⟩
    · have hix : idxF p (List.range n) = -1 := idxF_miss (fun x hx => Hk.out x (by have := List.mem_range.1 hx; omega))
      rw [Hres.out] at hix
      go_wp2
      go_ret
      exact ⟨ret_congr (int_congr hix.symm), hb⟩

theorem all_st (g : Nat) (lb : Array Value) (M : List Nat) (p : Nat → Bool) (S : Nat → World → Prop) (A : Option Addr) (n cap : Nat) (l : List Int) (w : World) (eg : Enters Tryz.prog g) (hn : l.length = n) (hm : n ≤ 1000000000) (hd : Cells w A 1 encI l) (hA : ∀ k, A.map (·.block) = some k → 0 < n → k ∉ M)
    (hM : ∀ k ∈ M, k < w.heap.size) (h0 : ∀ W, Below w.heap.size w W → S 0 W) (hp : StepB g lb M l p S w) :
    Calls Tryz.prog 43 #[.slice A n cap, .func (.func g) #[] lb] w fun e w' => e = .returned (.bool ((List.range n).all p)) ∧ Dr.Bel M w w' := by
  have hb0 := ext_alloc w (.cells #[.func (.func g) #[] lb] 85)
  have hB : (w.alloc (.cells #[.func (.func g) #[] lb] 85)).cell? ⟨w.heap.size, 0, none⟩ = some (.func (.func g) #[] lb) := by simp
  have hp1 : StepB 67 #[.pointer (some ⟨w.heap.size, 0, none⟩)] M l (fun x => !p x) S (w.alloc (.cells #[.func (.func g) #[] lb] 85)) := by
    intro i hi W hb hs
    have hlt : w.heap.size < W.heap.size := by have := hb.size; simp at this; omega
    have hB' := (World.cell?_of_block (hb.block w.heap.size (by simp) (fun hm => by have := hM _ hm; omega))).trans hB
    unfold Enters at eg
    have hc := hp i hi W ((Dr.Bel.of hb0).trans hb) hs
    show Calls Tryz.prog 67 #[.int .i64 l[i], .pointer (some ⟨w.heap.size, 0, none⟩)] W fun e W' => e = .returned (.bool (!p i)) ∧ Dr.Bel M W W' ∧ S (i + 1) W'
    generalize p i = q at *
    generalize l[i] = x at *
    have Hc := Lib.hid hc
    clear hc hp hB hs h0 hd hb hb0
    go_enter Tryz.func67, Tryz.ntmps67
    go_wp2_with fail
    refine Hc.out.mono ?_; rintro e w1 ⟨rfl, hb1, hs1⟩
    have HS1 := Lib.hid hs1
    clear hs1
    go_wp2
    go_ret
    exact ⟨rfl, hb1, HS1.out⟩
  have hc := index_st 67 #[.pointer (some ⟨w.heap.size, 0, none⟩)] M (fun x => !p x) S A n cap l _ (enters_of Tryz.func67 (by kernel_rfl) rfl) hn hm (hd.ext hb0) hA (h0 _ hb0) hp1
  have hr : (!decide (0 ≤ idxF (fun x => !p x) (List.range n))) = (List.range n).all p := by rw [idxF_nonneg, any_not]
  rw [← hr]
  clear hr
  generalize idxF (fun x => !p x) (List.range n) = x at *
  have Hc := Lib.hid hc
  clear hc hp hn hd eg h0 hp1 hB
  have C : Hid (Calls Tryz.prog 66 #[.slice A n cap, .func (.func 67) #[] #[.pointer (some ⟨w.heap.size, 0, none⟩)]] (w.alloc (.cells #[.func (.func g) #[] lb] 85)) fun e w' => e = .returned (.bool (decide (0 ≤ x))) ∧ Dr.Bel M (w.alloc (.cells #[.func (.func g) #[] lb] 85)) w') := Lib.hid (by
    go_enter Tryz.func66, Tryz.ntmps66
    go_wp2_with fail
    refine Hc.out.mono ?_; rintro e w1 ⟨rfl, hb1⟩
    go_wp2
    go_ret
    exact ⟨rfl, hb1⟩)
  clear Hc
  generalize decide (0 ≤ x) = q at *
  go_enter Tryz.func43, Tryz.ntmps43
  go_wp2_with fail
  refine C.out.mono ?_; rintro e w1 ⟨rfl, hb1⟩
  go_wp2
  go_ret
  exact ⟨rfl, (Dr.Bel.of hb0).trans hb1⟩

/-- the last value seen -/
def lastV (l : List Int) (i : Nat) : Int := if i = 0 then 1001 else l.getD (i - 1) 0
theorem fallsB_range (l : List Int) : (List.range l.length).all (fun i => decide (1 ≤ l.getD i 0 ∧ l.getD i 0 < lastV l i)) = fallsB 1001 l := by
  rw [Bool.eq_iff_iff, List.all_eq_true, falls_iff]
  constructor
  · intro h
    refine ⟨fun i hi => ?_, fun i hi => ?_⟩
    · have := of_decide_eq_true (h i (by simpa using hi))
      simpa [hi] using this.1
    · have := of_decide_eq_true (h i (by simpa using hi))
      have h2 := this.2
      unfold lastV at h2
      simpa [hi] using h2
  · rintro ⟨h1, h2⟩ i hi
    have hi' : i < l.length := by simpa using hi
    refine decide_eq_true ⟨by simpa [hi'] using h1 i hi', ?_⟩
    have := h2 i hi'
    unfold lastV
    simpa [hi'] using this

theorem falls_any (x last : Int) (L : Nat) (w : World) (hL : Blk w L 3 [.int .i64 last]) :
    Calls Tryz.prog 62 #[.int .i64 x, .pointer (some ⟨L, 0, none⟩)] w fun e w' => e = .returned (.bool (decide (1 ≤ x ∧ x < last))) ∧ w' = w.setCell ⟨L, 0, none⟩ (.int .i64 x) := by
  have c0 : w.cell? ⟨L, 0, none⟩ = _ := hL.cell rfl
  have f0 := hL.free 0
  by_cases h1 : 1 ≤ x
  · go_enter Tryz.func62, Tryz.ntmps62
    go_wp2
    go_ret
    exact ⟨by simp [h1], rfl⟩
  · have hd : decide (1 ≤ x ∧ x < last) = false := by simp; omega
    rw [hd]
    go_enter Tryz.func62, Tryz.ntmps62
    go_wp2
    go_ret
    exact ⟨rfl, rfl⟩
def tlV (A : Option Addr) (n c : Nat) (B : Option Addr) (m d : Nat) : Value := .agg #[.slice A n c, .slice B m d]
theorem cnt_ok (l : List Int) (w : World) : PredB Tryz.prog 63 #[] (Value.int .i64) (fun c => decide (0 ≤ c ∧ c ≤ 50)) w l := by
  intro W x hx hb
  have C1 := Lib.hid (fun W => within_any x 0 50 W)
  show Calls Tryz.prog 63 #[.int .i64 x] W fun e w' => e = .returned (.bool (decide (0 ≤ x ∧ x ≤ 50))) ∧ Below W.heap.size W w'
  generalize decide (0 ≤ x ∧ x ≤ 50) = b1 at *
  clear hx hb
  go_enter Tryz.func63, Tryz.ntmps63
  go_wp2_with fail
  refine (C1.out _).mono ?_; rintro e w1 ⟨rfl, rfl⟩
  go_wp2
  go_ret
  exact ⟨rfl, Below.refl _ _⟩

set_option maxHeartbeats 1000000 in
theorem tvalid_any (t : Tl) (A B : Option Addr) (n c m d : Nat) (w : World) (hn : t.vals.length = n) (hm : t.cnts.length = m) (h1 : n ≤ 1000000) (h2 : m ≤ 1000000) (hA : Cells w A 1 encI t.vals) (hB : Cells w B 1 encI t.cnts) :
    Calls Tryz.prog 40 #[tlV A n c B m d] w fun e w' => e = .returned (.bool t.okB) ∧ Below w.heap.size w w' := by
  unfold tlV Tl.okB
  rw [hn, hm]
  have hb0 := ext_alloc w (.cells #[.slice A n c, .slice B m d] 59)
  have hX := Blk.new w 59 [.slice A n c, .slice B m d]
  have C1 := Lib.hid (fun W => within_any n 1 8 W)
  have hd1 : decide ((1 ≤ n ∧ n ≤ 8) ∧ m = n) = (decide (1 ≤ (n : Int) ∧ (n : Int) ≤ 8) && decide (m = n)) := by
    rw [← Bool.decide_and]; congr 1; rw [eq_iff_iff]; omega
  rw [hd1]
  generalize decide (1 ≤ (n : Int) ∧ (n : Int) ≤ 8) = b1 at *
  clear hd1
  generalize hb2 : decide (m = n) = b2
  have Hb2 := Lib.hid hb2
  clear hb2
  have hs0 : (w.alloc (.cells #[.slice A n c, .slice B m d] 59)).heap.size = w.heap.size + 1 := by simp
  have hA1 := hA.ext hb0
  have hB1 := hB.ext hb0
  have hAlt : ∀ q, A.map (·.block) = some q → 0 < n → q < w.heap.size := fun q hq h0 => by
    obtain ⟨b, off, e, hlt, -⟩ := hA.at1 (k := 0) (by omega) rfl
    subst e; simp at hq; subst hq; exact hlt
  have hBlt : ∀ q, B.map (·.block) = some q → 0 < m → q < w.heap.size := fun q hq h0 => by
    obtain ⟨b, off, e, hlt, -⟩ := hB.at1 (k := 0) (by omega) rfl
    subst e; simp at hq; subst hq; exact hlt
  clear hA hB
  have Hn := Lib.hid hn
  have Hm := Lib.hid hm
  have hfr := fallsB_range t.vals
  rw [hn] at hfr
  rw [← hfr]
  clear hn hm hfr
  have hr : ∀ i, i ∈ List.range n → i < n := fun i hi => List.mem_range.1 hi
  generalize hb3 : ((List.range n).all fun i => decide (1 ≤ t.vals.getD i 0 ∧ t.vals.getD i 0 < lastV t.vals i)) = b3
  have Hb3 := Lib.hid hb3
  clear hb3 hr
  generalize hb4 : (t.cnts.all fun c => decide (0 ≤ c ∧ c ≤ 50)) = b4
  have Hb4 := Lib.hid hb4
  clear hb4
  go_enter Tryz.func40, Tryz.ntmps40
  go_upto_region 1 with fail
  change Blk (w.alloc (.cells #[.slice A n c, .slice B m d] 59)) _ _ _ at hX
  generalize w.alloc (.cells #[.slice A n c, .slice B m d] 59) = W0 at *
  have x0 : W0.cell? ⟨w.heap.size, 0, none⟩ = _ := hX.cell rfl
  have x1 : W0.cell? ⟨w.heap.size, 1, none⟩ = _ := hX.cell rfl
  go_wp2_with fail
  refine (C1.out _).mono ?_; rintro e w1 ⟨rfl, rfl⟩
  cases b1
  · go_wp2
    go_ret
    exact ⟨rfl, hb0⟩
  cases b2
  · have hz : ((m : Int) == (n : Int)) = false := by have := of_decide_eq_false Hb2.out; simp; omega
    go_wp2
    go_ret
    exact ⟨rfl, hb0⟩
  have hmn := of_decide_eq_true Hb2.out
  subst hmn
  clear Hb2
  go_upto_region 4 with fail
  have hL := Blk.new W0 3 [.int .i64 1001]
  have hbL := ext_alloc W0 (.cells #[.int .i64 1001] 3)
  have hX1 := hX.alloc (.cells #[.int .i64 1001] 3)
  have hs1 : (W0.alloc (.cells #[.int .i64 1001] 3)).heap.size = w.heap.size + 2 := by simp [hs0]
  change Blk (W0.alloc (.cells #[.int .i64 1001] 3)) _ _ _ at hL
  generalize W0.alloc (.cells #[.int .i64 1001] 3) = W1 at *
  rw [hs0] at hL
  have hA2 := hA1.ext hbL
  have hB2 := hB1.ext hbL
  have hp : StepB 62 #[.pointer (some ⟨w.heap.size + 1, 0, none⟩)] [w.heap.size + 1] t.vals (fun i => decide (1 ≤ t.vals.getD i 0 ∧ t.vals.getD i 0 < lastV t.vals i)) (fun i W => Blk W (w.heap.size + 1) 3 [.int .i64 (lastV t.vals i)]) W1 := by
    intro i hi W hb hS
    have hg : t.vals.getD i 0 = t.vals[i] := by simp [hi]
    have hl : lastV t.vals (i + 1) = t.vals[i] := by simp [lastV, hi]

    simp only [hg, hl]
    refine (falls_any t.vals[i] _ _ W hS).mono fun e W' ⟨h3, h4⟩ => ⟨h3, ?_, ?_⟩
    · rw [h4]; exact Dr.Bel.store (by simp) _
    · rw [h4]; exact hS.set 0 _
  have hc3 := all_st 62 #[.pointer (some ⟨w.heap.size + 1, 0, none⟩)] [w.heap.size + 1] _ _ A m c t.vals W1 (enters_of Tryz.func62 (by kernel_rfl) rfl) Hn.out (by omega) hA2 (fun q hq h0 hm => by have := hAlt q hq h0; simp at hm; omega) (fun k hk => by simp at hk; omega) (fun W hW => hL.ext hW) hp
  rw [Hb3.out] at hc3
  have hc4 : ∀ W, Dr.Bel [w.heap.size + 1] W1 W → Calls Tryz.prog 43 #[.slice B m d, .func (.func 63) #[] #[]] W fun e w' => e = .returned (.bool b4) ∧ Below W.heap.size W w' := fun W hW => by
    rw [← Hb4.out]
    refine all_int 63 #[] _ B m d t.cnts W (enters_of Tryz.func63 (by kernel_rfl) rfl) Hm.out (by omega) ?_ (cnt_ok t.cnts W)
    by_cases h0 : 0 < m
    · exact cells_bel hB2 hW (fun q hq => by have := hBlt q hq h0; simp; omega)
    · intro i x hi
      have := (List.getElem?_eq_some_iff.1 hi).1
      have := Hm.out
      omega
  have C3 := Lib.hid hc3
  have C4 := Lib.hid hc4
  have y0 : W1.cell? ⟨w.heap.size, 0, none⟩ = _ := hX1.cell rfl
  have hbw : Below w.heap.size w W1 := hb0.trans (hbL.mono (by omega))
  clear hc3 hc4 hp hA1 hB1 hA2 hB2 hL hX x0 x1 C1
  go_wp2_with fail
  refine C3.out.mono ?_; rintro e W2 ⟨rfl, hb2⟩
  have hbw2 : Below w.heap.size w W2 := hbw.trans (hb2.old (by omega) (by simp))
  have hX2 := hb2.blk hX1 (by simp)
  have y1 : W2.cell? ⟨w.heap.size, 1, none⟩ = _ := hX2.cell rfl
  cases b3
  · go_wp2
    go_ret
    exact ⟨rfl, hbw2⟩
  go_wp2_with fail
  refine (C4.out W2 hb2).mono ?_; rintro e W3 ⟨rfl, hb3⟩
  go_wp2
  go_ret
  exact ⟨rfl, hbw2.trans (hb3.mono hbw2.size)⟩
end Go.Proofs.YtnjdlhhgnamigaaGreat

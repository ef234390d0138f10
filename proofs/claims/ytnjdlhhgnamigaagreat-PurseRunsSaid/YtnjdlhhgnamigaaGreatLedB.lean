/- Walk: the bags but one (an iterator); is a number a seal of them; the total. -/
import Derived.Sort.CutIn
import Derived.LoopNIn
import Derived.LoopIn
import Derived.TacticsInMore
import Derived.Test.YtnjdlhhgnamigaaGreatLedA
import Derived.Test.YtnjdlhhgnamigaaGreatTilU
namespace Go.Pu
open Go.Pl
def othL (bags : List Bag) (but : Int) (k : Nat) : List Bag := ((List.range k).filter fun i : Nat => decide ((i : Int) ≠ but)).map fun i => bags.getD i default
theorem othL_hit {bags : List Bag} {but : Int} {k : Nat} (hk : k < bags.length) (h : (k : Int) ≠ but) : othL bags but (k + 1) = othL bags but k ++ [bags[k]] := by
  unfold othL
  rw [List.range_succ, List.filter_append, List.map_append]
  simp [h, hk]
theorem othL_miss {bags : List Bag} {but : Int} {k : Nat} (h : (k : Int) = but) : othL bags but (k + 1) = othL bags but k := by
  unfold othL
  rw [List.range_succ, List.filter_append, List.map_append]
  simp [h]
theorem othL_len (bags : List Bag) (but : Int) (k : Nat) : (othL bags but k).length ≤ k := by
  unfold othL
  rw [List.length_map]
  exact Nat.le_trans (List.length_filter_le _ _) (by simp)
theorem othL_any (bags : List Bag) (but s : Int) (k : Nat) : (othL bags but k).any (fun b => b.has s) = (List.range k).any fun i : Nat => decide ((i : Int) ≠ but) && (bags.getD i default).has s := by
  unfold othL
  rw [List.any_map, List.any_filter]
  rfl
theorem othL_mono (bags : List Bag) (but s : Int) {k m : Nat} (h : k ≤ m) (hk : (othL bags but k).any (fun b => b.has s) = true) : (othL bags but m).any (fun b => b.has s) = true := by
  rw [othL_any] at hk ⊢
  obtain ⟨i, hi, hp⟩ := List.any_eq_true.1 hk
  exact List.any_eq_true.2 ⟨i, by simp at hi ⊢; omega, hp⟩
theorem sealed_oth (l : Led) (s but : Int) : l.sealed s but = (othL l.bags but l.bags.length).any (fun b => b.has s) := by
  rw [othL_any]; rfl
theorem othL_all (bags : List Bag) : othL bags (-1) bags.length = bags := by
  unfold othL
  rw [List.filter_eq_self.2 (fun i _ => by simp)]
  apply List.ext_getElem (by simp)
  intro i h1 h2
  simp [h2]
end Go.Pu
namespace Go.Proofs.YtnjdlhhgnamigaaGreat
open Go.RowKit Go.Bs Go.Pu Go.Pl Go.Sort

/-- a ledger's value -/
def ledV (A : Option Addr) (n c : Nat) (B : Option Addr) (m d : Nat) (o k b i t : Int) (D : Option Addr) (q e : Nat) : Value :=
  .agg #[.slice A n c, .slice B m d, .int .i64 o, .int .i64 k, .int .i64 b, .int .i64 i, .int .i64 t, .slice D q e]
def ledC (A : Option Addr) (n c : Nat) (B : Option Addr) (m d : Nat) (o k b i t : Int) (D : Option Addr) (q e : Nat) : List Value :=
  [.slice A n c, .slice B m d, .int .i64 o, .int .i64 k, .int .i64 b, .int .i64 i, .int .i64 t, .slice D q e]

theorem wrap64_id {x : Int} (h : -9223372036854775808 ≤ x ∧ x ≤ 9223372036854775807) : wrap64 x = x := by unfold wrap64; omega
theorem wrap64_add (x y : Int) : wrap64 (wrap64 x + y) = wrap64 (x + y) := by unfold wrap64; omega
theorem others_any (A : Option Addr) (n c : Nat) (B : Option Addr) (m d : Nat) (o k b i t : Int) (D : Option Addr) (q e : Nat) (but : Int) (w : World) :
    Calls Tryz.prog 68 #[ledV A n c B m d o k b i t D q e, .int .i64 but] w fun r w' => r = .returned (.func (.func 89) #[] #[.pointer (some ⟨w.heap.size, 0, none⟩), .pointer (some ⟨w.heap.size + 1, 0, none⟩)]) ∧
      w' = (w.alloc (.cells (ledC A n c B m d o k b i t D q e).toArray 34)).alloc (.cells #[.int .i64 but] 3) := by
  unfold ledV ledC
  go_enter Tryz.func68, Tryz.ntmps68
  go_wp2
  go_ret
  exact ⟨rfl, rfl⟩

section
attribute [local go_sem] Oper.semAt_some
set_option maxRecDepth 100000 in
set_option maxHeartbeats 2000000 in
theorem oth_in (bags : List Bag) (but : Int) (F : Fence) (f : Nat) (h : F.fn 89) (hro : F.round = none) (hf : 1 ≤ f) (l Bl Bb n₀ m d : Nat) (B : Option Addr) (hm : bags.length = m) (hm9 : m ≤ 1000000000) (hB : ∀ k, B.map (·.block) = some k → 0 < m → k < n₀) (J Jx : List Bag → World → Prop)
    (W : World) (hn₀ : n₀ ≤ W.heap.size) (hJ : AbidesFrom W.heap.size J)
    (hY : ∀ pre x W, J pre W → pre.length < m → YieldAt F (f - 1) Tryz.prog l #[Bag.val x] W fun e W' =>
      (e = .returned (.bool true) ∧ J (pre ++ [x]) W' ∧ Kept n₀ Bb W W') ∨ (e = .returned (.bool false) ∧ Jx (pre ++ [x]) W'))
    (hBl : W.cell? ⟨Bl, 1, none⟩ = some (.slice B m d)) (hBb : W.cell? ⟨Bb, 0, none⟩ = some (.int .i64 but)) (hBW : Bb < W.heap.size) (hc : Cells W B 6 Bag.enc bags) (h0 : J [] W) :
    CallsIn F f Tryz.prog 89 #[.func (.yield l) #[] #[], .pointer (some ⟨Bl, 0, none⟩), .pointer (some ⟨Bb, 0, none⟩)] W fun e W' => (∃ v, e = .returned v) ∧
      ((∃ ys, ys = othL bags but m ∧ J ys W') ∨ (∃ pre, (∃ k, k < m ∧ (k : Int) ≠ but ∧ pre = othL bags but (k + 1)) ∧ Jx pre W')) := by
  refine callsIn_of_wp Tryz.func89 rfl h ?_ hro
  simp only [Tryz.ntmps89, List.size_toArray, List.length_cons, List.length_nil, Nat.reduceAdd, Nat.reduceSub, Array.replicate_succ, Array.replicate_zero, List.push_toArray, List.append_toArray, List.nil_append, List.cons_append]
  have HJ := Lib.hid hJ
  have HY := Lib.hid hY
  have Hm := Lib.hid hm
  clear hJ hY hm
  gi_wp2
  gi_loopw [4, 5, 9] (fun _ _ i wr => ∃ k : Nat, k ≤ m ∧ i = .int .i64 k ∧ Hid (J (othL bags but k) wr) ∧ Kept n₀ Bb W wr ∧ W.heap.size ≤ wr.heap.size)
    (fun _ _ i _ => m - (intOf i).toNat)
  case atStart => exact ⟨0, Nat.zero_le _, rfl, Lib.hid (by simpa [othL] using h0), ⟨Below.refl _ _, rfl⟩, Nat.le_refl _⟩
  case round =>
    clear hBl
    obtain ⟨k, hk, rfl, hJs, hnx, hsz⟩ := hrel
    have hBb' := hnx.2.trans hBb
    by_cases hlt : k < m
    · have hlt' : (k : Int) < (m : Int) := by omega
      have hkl : k < bags.length := by rw [Hm.out]; exact hlt
      have hcw : Cells wr B 6 Bag.enc bags := Cells.keep hc (fun p _ hp => hnx.1.cell (hB _ hp (by omega)))
      obtain ⟨b, off, rfl, -, c0, c1, c2, c3, c4, c5⟩ := hcw.at6 hkl rfl
      have hx : (⟨bags[k].window, bags[k].sl, bags[k].written, bags[k].holds, bags[k].now, bags[k].opened⟩ : Bag) = bags[k] := rfl
      have Hhit := Lib.hid (fun h => othL_hit (bags := bags) (but := but) hkl h)
      have Hmiss := Lib.hid (fun h => othL_miss (bags := bags) (but := but) (k := k) h)
      generalize bags[k] = x at *
      gi_upto_region 3 with fail
      have hJ2 : J (othL bags but k) (wr.alloc (.cells #[.int .i64 x.window, .int .i64 x.sl, .int .i64 x.written, .int .i64 x.holds, .int .i64 x.now, .bool x.opened] 80)) :=
        HJ.out _ _ _ none hJs.out (World.grownBy_alloc _ _ _) (fun r e => by cases e)
      have hnx2 : Kept n₀ Bb W (wr.alloc (.cells #[.int .i64 x.window, .int .i64 x.sl, .int .i64 x.written, .int .i64 x.holds, .int .i64 x.now, .bool x.opened] 80)) :=
        hnx.trans ⟨(Below.refl _ _).alloc (by omega) _, (ext_alloc wr _).cell (p := ⟨Bb, 0, none⟩) (by show Bb < _; omega)⟩
      have hBx := Blk.new wr 80 (Bag.enc x)
      have hB2 := hnx2.2.trans hBb
      have hs2 : W.heap.size ≤ (wr.alloc (.cells #[.int .i64 x.window, .int .i64 x.sl, .int .i64 x.written, .int .i64 x.holds, .int .i64 x.now, .bool x.opened] 80)).heap.size := by simp; omega
      have HJ2 := Lib.hid hJ2
      change Blk (wr.alloc (.cells #[.int .i64 x.window, .int .i64 x.sl, .int .i64 x.written, .int .i64 x.holds, .int .i64 x.now, .bool x.opened] 80)) _ _ _ at hBx
      clear hJ2 hJs hBb' hcw c0 c1 c2 c3 c4 c5 hnx hx
      generalize wr.alloc (.cells #[.int .i64 x.window, .int .i64 x.sl, .int .i64 x.written, .int .i64 x.holds, .int .i64 x.now, .bool x.opened] 80) = W2 at *
      have y0 : W2.cell? ⟨wr.heap.size, 0, none⟩ = _ := hBx.cell (i := 0) rfl
      have y1 : W2.cell? ⟨wr.heap.size, 1, none⟩ = _ := hBx.cell (i := 1) rfl
      have y2 : W2.cell? ⟨wr.heap.size, 2, none⟩ = _ := hBx.cell (i := 2) rfl
      have y3 : W2.cell? ⟨wr.heap.size, 3, none⟩ = _ := hBx.cell (i := 3) rfl
      have y4 : W2.cell? ⟨wr.heap.size, 4, none⟩ = _ := hBx.cell (i := 4) rfl
      have y5 : W2.cell? ⟨wr.heap.size, 5, none⟩ = _ := hBx.cell (i := 5) rfl
      by_cases hbut : (k : Int) = but
      · have hj : J (othL bags but (k + 1)) W2 := by rw [Hmiss.out hbut]; exact HJ2.out
        have Hj := Lib.hid hj
        subst hbut
        clear hj HY HJ2
        gi_wp2
        refine ⟨fun f e => (by cases e), ?_⟩
        gi_wp2
        go_roundw
        case rel => exact ⟨k + 1, by omega, by go_num, Hj, hnx2, hs2⟩
        case measure => simp [intOf]; omega
      · obtain ⟨fn, tmps, assign, body, hy, hR⟩ := HY.out _ x W2 HJ2.out (by have := othL_len bags but k; omega)
        dsimp only [Bag.val] at hy
        have HR := Lib.hid hR
        have hh := Lib.hid (Hhit.out hbut)
        clear hR HY HJ2
        gi_wp2
        have hR := HR.out
        refine hR.mono ?_
        rintro e W3 (⟨rfl, hJ3, hk3⟩ | ⟨rfl, hJx3⟩)
        · have HJ3 := Lib.hid (show J (othL bags but (k + 1)) W3 by rw [hh.out]; exact hJ3)
          clear hJ3
          gi_wp2
          go_roundw
          case rel => exact ⟨k + 1, by omega, by go_num, HJ3, hnx2.trans hk3, Nat.le_trans hs2 hk3.1.size⟩
          case measure => simp [intOf]; omega
        · have HJ3 := Lib.hid (show Jx (othL bags but (k + 1)) W3 by rw [hh.out]; exact hJx3)
          clear hJx3
          gi_wp2
          refine bodyPost_ret (results_none rfl _ _ _) rfl ?_
          exact ⟨⟨_, rfl⟩, .inr ⟨_, ⟨k, hlt, hbut, rfl⟩, HJ3.out⟩⟩
    · obtain rfl : k = m := by omega
      gi_wp2
      go_end0
      exact ⟨⟨_, rfl⟩, .inl ⟨_, rfl, hJs.out⟩⟩

theorem oth_stops (bags : List Bag) (but : Int) (F : Fence) (f : Nat) (h : F.fn 89) (hro : F.round = none) (hf : 1 ≤ f) (Bl Bb n₀ m d : Nat) (B : Option Addr) (hm : bags.length = m) (hm9 : m ≤ 1000000000) (hB : ∀ k, B.map (·.block) = some k → 0 < m → k < n₀) (w : World)
    (hn₀ : n₀ ≤ w.heap.size) (hBl : w.cell? ⟨Bl, 1, none⟩ = some (.slice B m d)) (hBb : w.cell? ⟨Bb, 0, none⟩ = some (.int .i64 but)) (hlW : Bl < w.heap.size) (hBW : Bb < w.heap.size) (hc : Cells w B 6 Bag.enc bags) :
    SeqStopsK F f Tryz.prog 89 #[.pointer (some ⟨Bl, 0, none⟩), .pointer (some ⟨Bb, 0, none⟩)] (fun x : Bag => #[Bag.val x]) (Kept n₀ Bb) (fun ys => ys = othL bags but m) (fun pre => ∃ k, k < m ∧ (k : Int) ≠ but ∧ pre = othL bags but (k + 1)) m w := fun l J Jx W hW hJ _ hY h0 =>
  oth_in bags but F f h hro hf l Bl Bb n₀ m d B hm hm9 hB J Jx W (Nat.le_trans hn₀ hW.size) hJ hY ((hW.cell (p := ⟨Bl, 1, none⟩) hlW).trans hBl) ((hW.cell (p := ⟨Bb, 0, none⟩) hBW).trans hBb) (Nat.lt_of_lt_of_le hBW hW.size) (hc.ext hW) h0

set_option maxRecDepth 100000 in
set_option maxHeartbeats 4000000 in
theorem sealed_any (bags : List Bag) (A : Option Addr) (n c : Nat) (B : Option Addr) (m d : Nat) (o k b i t : Int) (D : Option Addr) (q e : Nat) (s but : Int) (w : World) (hm : bags.length = m) (hm9 : m ≤ 1000000) (hB : Cells w B 6 Bag.enc bags) :
    Calls Tryz.prog 78 #[ledV A n c B m d o k b i t D q e, .int .i64 s, .int .i64 but] w fun r w' => r = .returned (.bool ((othL bags but m).any (fun b => b.has s))) ∧ Below w.heap.size w w' := by
  have hb0 : Below w.heap.size w (((w.alloc (.cells (ledC A n c B m d o k b i t D q e).toArray 34)).alloc (.cells #[.int .i64 s] 3)).alloc (.cells #[.bool false] 4)) := (((Below.refl _ _).alloc (Nat.le_refl _) _).alloc (by simp) _).alloc (by simp; omega) _
  have hX := ((Blk.new w 34 (ledC A n c B m d o k b i t D q e)).alloc (.cells #[.int .i64 s] 3)).alloc (.cells #[.bool false] 4)
  have hS := (Blk.new (w.alloc (.cells (ledC A n c B m d o k b i t D q e).toArray 34)) 3 [.int .i64 s]).alloc (.cells #[.bool false] 4)
  have hR := Blk.new ((w.alloc (.cells (ledC A n c B m d o k b i t D q e).toArray 34)).alloc (.cells #[.int .i64 s] 3)) 4 [.bool false]
  have hsz : (((w.alloc (.cells (ledC A n c B m d o k b i t D q e).toArray 34)).alloc (.cells #[.int .i64 s] 3)).alloc (.cells #[.bool false] 4)).heap.size = w.heap.size + 3 := by simp
  simp only [World.size_alloc] at hS hR
  have hBlt : ∀ r, B.map (·.block) = some r → 0 < m → r < w.heap.size := fun r hr h0 => by
    obtain ⟨b, off, e, hlt, -⟩ := hB.at6 (k := 0) (by omega) rfl
    subst e; simp at hr; subst hr; exact hlt
  have Hm := Lib.hid hm
  clear hm
  generalize hres : (othL bags but m).any (fun b => b.has s) = res
  have Hres := Lib.hid hres
  clear hres
  unfold ledV ledC at *
  refine (callsIn_wide (n := 20)).1 (callsIn_of_wp_marks Tryz.func78 rfl trivial ?_)
  simp only [Tryz.ntmps78, List.size_toArray, List.length_cons, List.length_nil, Nat.reduceAdd, Nat.reduceSub, Array.replicate_succ, Array.replicate_zero, List.push_toArray, List.append_toArray, List.nil_append, List.cons_append]
  refine wpIn_wide.2 ?_
  go_upto_region 1 with fail
  change Blk (((w.alloc (.cells #[.slice A n c, .slice B m d, .int .i64 o, .int .i64 k, .int .i64 b, .int .i64 i, .int .i64 t, .slice D q e] 34)).alloc (.cells #[.int .i64 s] 3)).alloc (.cells #[.bool false] 4)) _ _ _ at hX
  change Blk (((w.alloc (.cells #[.slice A n c, .slice B m d, .int .i64 o, .int .i64 k, .int .i64 b, .int .i64 i, .int .i64 t, .slice D q e] 34)).alloc (.cells #[.int .i64 s] 3)).alloc (.cells #[.bool false] 4)) _ _ _ at hS
  change Blk (((w.alloc (.cells #[.slice A n c, .slice B m d, .int .i64 o, .int .i64 k, .int .i64 b, .int .i64 i, .int .i64 t, .slice D q e] 34)).alloc (.cells #[.int .i64 s] 3)).alloc (.cells #[.bool false] 4)) _ _ _ at hR
  change Below w.heap.size w (((w.alloc (.cells #[.slice A n c, .slice B m d, .int .i64 o, .int .i64 k, .int .i64 b, .int .i64 i, .int .i64 t, .slice D q e] 34)).alloc (.cells #[.int .i64 s] 3)).alloc (.cells #[.bool false] 4)) at hb0
  change (((w.alloc (.cells #[.slice A n c, .slice B m d, .int .i64 o, .int .i64 k, .int .i64 b, .int .i64 i, .int .i64 t, .slice D q e] 34)).alloc (.cells #[.int .i64 s] 3)).alloc (.cells #[.bool false] 4)).heap.size = _ at hsz
  generalize (((w.alloc (.cells #[.slice A n c, .slice B m d, .int .i64 o, .int .i64 k, .int .i64 b, .int .i64 i, .int .i64 t, .slice D q e] 34)).alloc (.cells #[.int .i64 s] 3)).alloc (.cells #[.bool false] 4)) = W0 at *
  have x0 : W0.cell? ⟨w.heap.size, 0, none⟩ = _ := hX.cell (i := 0) rfl
  have x1 : W0.cell? ⟨w.heap.size, 1, none⟩ = _ := hX.cell (i := 1) rfl
  have x2 : W0.cell? ⟨w.heap.size, 2, none⟩ = _ := hX.cell (i := 2) rfl
  have x3 : W0.cell? ⟨w.heap.size, 3, none⟩ = _ := hX.cell (i := 3) rfl
  have x4 : W0.cell? ⟨w.heap.size, 4, none⟩ = _ := hX.cell (i := 4) rfl
  have x5 : W0.cell? ⟨w.heap.size, 5, none⟩ = _ := hX.cell (i := 5) rfl
  have x6 : W0.cell? ⟨w.heap.size, 6, none⟩ = _ := hX.cell (i := 6) rfl
  have x7 : W0.cell? ⟨w.heap.size, 7, none⟩ = _ := hX.cell (i := 7) rfl
  have CO := Lib.hid (others_any A n c B m d o k b i t D q e but W0)
  unfold ledV ledC at CO
  go_wp2_with fail
  refine CO.out.mono ?_; rintro r W1 ⟨rfl, hW1⟩
  have hbW1 : Below W0.heap.size W0 W1 := by rw [hW1]; exact ((Below.refl _ _).alloc (Nat.le_refl _) _).alloc (by simp) _
  have hbw1 := hb0.trans (hbW1.mono (by omega))
  have hsz1 : W1.heap.size = w.heap.size + 5 := by rw [hW1]; simp [hsz]
  have hS1 := hS.ext hbW1
  have hR1 := hR.ext hbW1
  have z1 : W1.cell? ⟨w.heap.size + 3, 1, none⟩ = some (.slice B m d) := by
    have h := ((Blk.new W0 34 [.slice A n c, .slice B m d, .int .i64 o, .int .i64 k, .int .i64 b, .int .i64 i, .int .i64 t, .slice D q e]).alloc (.cells #[.int .i64 but] 3)).cell (i := 1) rfl
    rw [hW1]; rw [hsz] at h; exact h
  have z2 : W1.cell? ⟨w.heap.size + 4, 0, none⟩ = some (.int .i64 but) := by
    have h := (Blk.new (W0.alloc (.cells #[.slice A n c, .slice B m d, .int .i64 o, .int .i64 k, .int .i64 b, .int .i64 i, .int .i64 t, .slice D q e] 34)) 3 [.int .i64 but]).cell (i := 0) rfl
    rw [World.size_alloc, hsz] at h
    rw [hW1]; exact h
  have hB1 := hB.ext hbw1
  rw [hsz]
  clear hW1 x0 x1 x2 x3 x4 x5 x6 x7 hX hS hR hb0 hbW1 CO hsz hB
  go_wp2
  generalize ha : Act.mk _ _ = a0
  refine wpIn_wide.1 (wpIn_rangeFunc_ownH (F := Fence.wide) (n := 20) rfl (by omega) (gf := 89) (lb := #[.pointer (some ⟨w.heap.size + 3, 0, none⟩), .pointer (some ⟨w.heap.size + 4, 0, none⟩)]) (by rw [← ha]; rfl) trivial (enters_of Tryz.func89 (by kernel_rfl) rfl)
    (oth_stops bags but Fence.wide 19 trivial rfl (by omega) (w.heap.size + 3) (w.heap.size + 4) w.heap.size m d B Hm.out (by omega) hBlt W1 (by omega) z1 z2 (by omega) (by omega) hB1)
    (fun h k => h.trans k) (Kept.put (by omega) (by omega)) (Below.refl _ _) (fun _ => rfl)
    (fun pre W => Below w.heap.size w W ∧ Blk W (w.heap.size + 1) 3 [.int .i64 s] ∧ Blk W (w.heap.size + 2) 4 [.bool false] ∧ pre.any (fun b => b.has s) = false ∧ W1.heap.size ≤ W.heap.size)
    (fun c pre W => c = .ret ∧ Below w.heap.size w W ∧ Blk W (w.heap.size + 2) 4 [.bool true] ∧ pre.any (fun b => b.has s) = true) ?own ?ownx ⟨hbw1, hS1, hR1, rfl, Nat.le_refl _⟩
    (fun x a' W => ∃ Bx, W1.heap.size ≤ Bx ∧ Blk W Bx 80 (Bag.enc x) ∧ a' = { tmps := (a0.tmps.setIfInBounds 11 (Bag.val x)).setIfInBounds 7 (.pointer (some ⟨Bx, 0, none⟩)), defers := [] })
    (fun x a' _ X Y row hs hg hr => by obtain ⟨Bx, h1, h2, h3⟩ := hs; exact ⟨Bx, h1, Blk.kept h2 hg (fun r e => (hr r e).2), h3⟩)
    ?assign ?body ?done ?stop)
  case own =>
    rintro pre X Y row ⟨h1, h2, h3, h4, h5⟩ hg hr
    have hr' := fun r e => (hr r e).2
    exact ⟨below_grown h1 (by omega) hg (fun k e => by have := (hr k e).1; omega), Blk.kept h2 hg hr', Blk.kept h3 hg hr', h4, Nat.le_trans h5 hg.size⟩
  case ownx =>
    rintro cc pre X Y row ⟨h1, h2, h3, h4⟩ hg hr
    have hr' := fun r e => (hr r e).2
    exact ⟨h1, below_grown h2 h2.size hg (fun k e => by have := (hr k e).1; omega), Blk.kept h3 hg hr', h4⟩
  case assign =>
    subst ha
    rintro l pre x W K ⟨h1, h2, h3, h4, h5⟩ hK
    dsimp only [Bag.val]
    gi_wp2
    have hR := (Rnd.refl W1.heap.size w.heap.size (w.heap.size + 4) W).ext (ext_alloc W (.cells #[.int .i64 x.window, .int .i64 x.sl, .int .i64 x.written, .int .i64 x.holds, .int .i64 x.now, .bool x.opened] 80)) (by omega) (by omega)
    exact hK _ _ hR.kf hR.kp ⟨h1.alloc (by omega) _, h2.alloc _, h3.alloc _, h4, by simp; omega⟩ ⟨W.heap.size, h5, Blk.new W 80 (Bag.enc x), rfl⟩
  case body =>
    subst ha
    rintro l pre x a' W hl - ⟨h1, h2, h3, h4, h5⟩ ⟨Bx, hBx, hx, rfl⟩ hlt
    simp only [List.setIfInBounds_toArray, List.set_cons_succ, List.set_cons_zero]
    have y0 : W.cell? ⟨Bx, 0, none⟩ = _ := hx.cell (i := 0) rfl
    have y1 : W.cell? ⟨Bx, 1, none⟩ = _ := hx.cell (i := 1) rfl
    have y2 : W.cell? ⟨Bx, 2, none⟩ = _ := hx.cell (i := 2) rfl
    have y3 : W.cell? ⟨Bx, 3, none⟩ = _ := hx.cell (i := 3) rfl
    have y4 : W.cell? ⟨Bx, 4, none⟩ = _ := hx.cell (i := 4) rfl
    have y5 : W.cell? ⟨Bx, 5, none⟩ = _ := hx.cell (i := 5) rfl
    have s0 : W.cell? ⟨w.heap.size + 1, 0, none⟩ = _ := h2.cell (i := 0) rfl
    have C := Lib.hid (has_any x s W)
    have Hany := Lib.hid (show (pre ++ [x]).any (fun b => b.has s) = x.has s by rw [List.any_append, h4]; simp)
    unfold Bag.val at C
    clear hx h4
    gi_wp2_with fail
    refine ⟨trivial, (Dr.callsF (F := Fence.wide.inRound l) (m := 17) rfl C.out).mono ?_⟩; rintro r W' ⟨rfl, hb1⟩
    have h1' := h1.trans (hb1.mono h1.size)
    have h2' := h2.ext hb1
    have h3' := h3.ext hb1
    have hR := (Rnd.refl W1.heap.size w.heap.size (w.heap.size + 4) W).ext hb1 (by omega) (by omega)
    have hz' := hR.sz
    clear y0 y1 y2 y3 y4 y5 s0 C h1 h2 h3 hb1
    generalize hxs : x.has s = xs at *
    cases xs
    · gi_wp2
      exact ⟨hR.kf, hR.kp, h1', h2', h3', Hany.out, by omega⟩
    · have f0 := h3'.free 0
      have r0 : W'.cell? ⟨w.heap.size + 2, 0, none⟩ = _ := h3'.cell (i := 0) rfl
      gi_wp2
      have hR2 := hR.setCell (p := ⟨w.heap.size + 2, 0, none⟩) (by simp) (by simp) (.bool true)
      exact ⟨hR2.kf, rfl, h1'.setCell (by show _ ≤ _ + 2; omega) _, h3'.set 0 _, Hany.out⟩
  case done =>
    subst ha
    rintro D' ys W hD rfl ⟨h1, h2, h3, h4, h5⟩ hK
    have hr : res = false := by rw [← Hres.out, h4]
    subst hr
    have f0 := h3.free 0
    have r0 : W.cell? ⟨w.heap.size + 2, 0, none⟩ = _ := h3.cell (i := 0) rfl
    have hne : D' ≠ w.heap.size + 2 := by omega
    go_wp2
    have hK9 : (W.setCell ⟨w.heap.size + 2, 0, none⟩ (.bool false)).heap[D']? = some (.deferred (some [])) := (Below.heap_setCell W ⟨w.heap.size + 2, 0, none⟩ (.bool false) D' hne).trans hK
    have h9 := h1.setCell (p := ⟨w.heap.size + 2, 0, none⟩) (by simp) (.bool false)
    have h39 := h3.set 0 (.bool false)
    have hs9 : w.heap.size + 5 ≤ (W.setCell ⟨w.heap.size + 2, 0, none⟩ (.bool false)).heap.size := by simp [World.setCell]; omega
    generalize W.setCell ⟨w.heap.size + 2, 0, none⟩ (.bool false) = W9 at *
    have hrow : ∀ r, some D' = some r → ∃ o : Obj, W9.heap[r]? = some o ∧ o.isCells = false := fun r e => by cases e; exact ⟨_, hK9, rfl⟩
    have p1 : (W9.putObj D' (.deferred none)).cell? ⟨w.heap.size + 1 + 1, 0, none⟩ = _ := (Blk.kept h39 (grownBy_putObj' W9 D' (.deferred none)) hrow).cell (i := 0) rfl
    have p4 : Below w.heap.size w (W9.putObj D' (.deferred none)) := h9.trans (belowK_b (w := w) (Nat.le_refl _) W9 D' _ _ (by omega) hK9 rfl rfl)
    refine ⟨by simp, .inl ⟨_, _, rfl, run_takeDeferred hK9, .bool false, by simp [results, Tryz.results78, go_sem, p1], rfl, p4⟩⟩
  case stop =>
    subst ha
    rintro D' cc pre W hD ⟨kk, hk1, hk2, rfl⟩ ⟨rfl, h2, h3, h4⟩ hK
    have hr : res = true := by rw [← Hres.out, othL_mono bags but s (by omega) h4]
    subst hr
    refine wpIn_wide.2 ?_
    go_wp2
    have hrow : ∀ r, some D' = some r → ∃ o : Obj, W.heap[r]? = some o ∧ o.isCells = false := fun r e => by cases e; exact ⟨_, hK, rfl⟩
    have p1 : (W.putObj D' (.deferred none)).cell? ⟨w.heap.size + 1 + 1, 0, none⟩ = _ := (Blk.kept h3 (grownBy_putObj' W D' (.deferred none)) hrow).cell (i := 0) rfl
    have p4 : Below w.heap.size w (W.putObj D' (.deferred none)) := h2.trans (belowK_b (w := w) (Nat.le_refl _) W D' _ _ (by omega) hK rfl rfl)
    refine ⟨by simp, .inl ⟨_, _, rfl, run_takeDeferred hK, .bool true, by simp [results, Tryz.results78, go_sem, p1], rfl, p4⟩⟩

set_option maxRecDepth 100000 in
set_option maxHeartbeats 4000000 in
theorem total_any (wins : List Int) (bags : List Bag) (A : Option Addr) (n c : Nat) (B : Option Addr) (m d : Nat) (o k b i t : Int) (D : Option Addr) (q e : Nat) (w : World) (hn : wins.length = n) (hm : bags.length = m) (hn9 : n ≤ 100) (hm9 : m ≤ 1000) (hA : Cells w A 1 encI wins) (hB : Cells w B 6 Bag.enc bags)
    (ho : 0 ≤ o ∧ o ≤ 1000000000000) (hk : 0 ≤ k ∧ k ≤ 1000000000000) (hw : ∀ x ∈ wins, 0 ≤ x ∧ x ≤ 1000000000000) (hh : ∀ x ∈ bags, 0 ≤ x.holds ∧ x.holds ≤ 1000000000000) :
    Calls Tryz.prog 45 #[ledV A n c B m d o k b i t D q e] w fun r w' => r = .returned (.int .i64 (o + k + isum wins + isum (bags.map Bag.holds))) ∧ Below w.heap.size w w' := by
  have hb0 := ext_alloc w (.cells (ledC A n c B m d o k b i t D q e).toArray 34)
  have hX := Blk.new w 34 (ledC A n c B m d o k b i t D q e)
  have hsz : (w.alloc (.cells (ledC A n c B m d o k b i t D q e).toArray 34)).heap.size = w.heap.size + 1 := by simp
  have hBlt : ∀ r, B.map (·.block) = some r → 0 < m → r < w.heap.size := fun r hr h0 => by
    obtain ⟨b, off, e, hlt, -⟩ := hB.at6 (k := 0) (by omega) rfl
    subst e; simp at hr; subst hr; exact hlt
  have CS := Lib.hid (fun W hW => sum_any A n c wins W hn hn9 (hA.ext hW) (fun x hx => by have := hw x hx; omega))
  have hsw := isum_map_bd id wins 1000000000000 (fun x hx => hw x hx)
  rw [List.map_id, hn] at hsw
  have hsb := isum_map_bd Bag.holds bags 1000000000000 hh
  rw [hm] at hsb
  have Hm := Lib.hid hm
  have Hh := Lib.hid hh
  clear hm hn hA hw hh
  generalize isum wins = sw at *
  generalize hres : o + k + sw + isum (bags.map Bag.holds) = res
  have Hres := Lib.hid hres
  clear hres
  unfold ledV ledC at *
  refine (callsIn_wide (n := 20)).1 (callsIn_of_wp_marks Tryz.func45 rfl trivial ?_)
  simp only [Tryz.ntmps45, List.size_toArray, List.length_cons, List.length_nil, Nat.reduceAdd, Nat.reduceSub, Array.replicate_succ, Array.replicate_zero, List.push_toArray, List.append_toArray, List.nil_append, List.cons_append]
  refine wpIn_wide.2 ?_
  go_upto_region 1 with fail
  change Blk (w.alloc (.cells #[.slice A n c, .slice B m d, .int .i64 o, .int .i64 k, .int .i64 b, .int .i64 i, .int .i64 t, .slice D q e] 34)) _ _ _ at hX
  change Below w.heap.size w (w.alloc (.cells #[.slice A n c, .slice B m d, .int .i64 o, .int .i64 k, .int .i64 b, .int .i64 i, .int .i64 t, .slice D q e] 34)) at hb0
  change (w.alloc (.cells #[.slice A n c, .slice B m d, .int .i64 o, .int .i64 k, .int .i64 b, .int .i64 i, .int .i64 t, .slice D q e] 34)).heap.size = _ at hsz
  generalize w.alloc (.cells #[.slice A n c, .slice B m d, .int .i64 o, .int .i64 k, .int .i64 b, .int .i64 i, .int .i64 t, .slice D q e] 34) = W0 at *
  go_cut [3] from 5 (fun v W => v = .pointer (some ⟨w.heap.size + 1, 0, none⟩) ∧ W.heap.size = w.heap.size + 2 ∧ Blk W (w.heap.size + 1) 3 [.int .i64 (o + k + sw)] ∧ Blk W w.heap.size 34 [.slice A n c, .slice B m d, .int .i64 o, .int .i64 k, .int .i64 b, .int .i64 i, .int .i64 t, .slice D q e] ∧ Below w.heap.size w W)
  case first =>
    refine Dr.wp_region_plan 10 [] (.q [0, 1, 2, 3, 4, 5, 6] (.e2 7 (.q [8] (.e1 9 .done)) 9 (.e1 7 (.q [8] .done)))) (by kernel_rfl) (by kernel_rfl) ?_
    have hX1 := hX.drew
    have hb1 := hb0.drew
    have hsz1 : W0.drew.heap.size = w.heap.size + 1 := hsz
    clear hX hb0 hsz
    generalize W0.drew = W at *
    have q0 := Dr.cell0 (hX1.cell (i := 0) rfl)
    have q2 := Dr.cell0 (hX1.cell (i := 2) rfl)
    have q3 := Dr.cell0 (hX1.cell (i := 3) rfl)
    refine Dr.plan_q (l := [_, _, _, _, _, _, _]) rfl (fun K hK => ?_)
    iterate 7 (go_big_quiet_step (fail))
    refine wpQuiet_nil (hK _ ?_); clear hK K
    clear q0 q2 q3
    refine Dr.plan_e2 ?_ ?_
    · refine Dr.plan_e rfl (by rfl) (fun K hK => ?_)
      go_wp2_with fail
      refine (CS.out W hb1).mono ?_; rintro r w1 ⟨rfl, rfl⟩
      refine hK _ _ (.refl _ _) ?_; clear hK K
      refine Dr.plan_q (l := [_]) rfl (fun K hK => ?_)
      iterate 1 (go_big_quiet_step (fail))
      refine wpQuiet_nil (hK _ ?_); clear hK K
      refine Dr.plan_e rfl (by rfl) (fun K hK => ?_)
      go_wp2_with fail
      refine hK _ _ (.of (ext_alloc _ _)) ?_; clear hK K
      have hS := Blk.new W 3 [.int .i64 (o + k + sw)]
      have hX2 := hX1.alloc (.cells #[.int .i64 (o + k + sw)] 3)
      have hb2 := hb1.alloc (by omega) (.cells #[.int .i64 (o + k + sw)] 3)
      have hb3 := hb1.alloc (by omega) (.cells #[.int .i64 0] 3)
      rw [hsz1] at hS
      have hsz2 : (W.alloc (.cells #[.int .i64 0] 3)).heap.size = w.heap.size + 2 := by simp [hsz1]
      refine Dr.plan_done (tl := [_]) rfl ?_
      go_wp2
      go_meet
      case rel => exact ⟨rfl, by simp [hsz1], hS, hX2, hb2⟩
    · refine Dr.plan_e rfl (by rfl) (fun K hK => ?_)
      go_wp2_with fail
      refine hK _ _ (.of (ext_alloc _ _)) ?_; clear hK K
      have hS := Blk.new W 3 [.int .i64 (o + k + sw)]
      have hX2 := hX1.alloc (.cells #[.int .i64 (o + k + sw)] 3)
      have hb2 := hb1.alloc (by omega) (.cells #[.int .i64 (o + k + sw)] 3)
      have hb3 := hb1.alloc (by omega) (.cells #[.int .i64 0] 3)
      rw [hsz1] at hS
      refine Dr.plan_e rfl (by rfl) (fun K hK => ?_)
      go_wp2_with fail
      refine (CS.out _ hb3).mono ?_; rintro r w1 ⟨rfl, rfl⟩
      refine hK _ _ (.refl _ _) ?_; clear hK K
      refine Dr.plan_q (l := [_]) rfl (fun K hK => ?_)
      iterate 1 (go_big_quiet_step (fail))
      refine wpQuiet_nil (hK _ ?_); clear hK K
      refine Dr.plan_done (tl := [_]) rfl ?_
      go_wp2
      go_meet
      case rel => exact ⟨rfl, by simp [hsz1], hS, hX2, hb2⟩
  case rest =>
    obtain ⟨rfl, hszc, hS, hXc, hbc⟩ := hcut
    have x0 : wc.cell? ⟨w.heap.size, 0, none⟩ = _ := hXc.cell (i := 0) rfl
    have x1 : wc.cell? ⟨w.heap.size, 1, none⟩ = _ := hXc.cell (i := 1) rfl
    have x2 : wc.cell? ⟨w.heap.size, 2, none⟩ = _ := hXc.cell (i := 2) rfl
    have x3 : wc.cell? ⟨w.heap.size, 3, none⟩ = _ := hXc.cell (i := 3) rfl
    have x4 : wc.cell? ⟨w.heap.size, 4, none⟩ = _ := hXc.cell (i := 4) rfl
    have x5 : wc.cell? ⟨w.heap.size, 5, none⟩ = _ := hXc.cell (i := 5) rfl
    have x6 : wc.cell? ⟨w.heap.size, 6, none⟩ = _ := hXc.cell (i := 6) rfl
    have x7 : wc.cell? ⟨w.heap.size, 7, none⟩ = _ := hXc.cell (i := 7) rfl
    have CO := Lib.hid (others_any A n c B m d o k b i t D q e (-1) wc)
    unfold ledV ledC at CO
    clear hb0 hX hsz CS
    go_wp2_with fail
    refine CO.out.mono ?_; rintro r W1 ⟨rfl, hW1⟩
    have hbW1 : Below wc.heap.size wc W1 := by rw [hW1]; exact ((Below.refl _ _).alloc (Nat.le_refl _) _).alloc (by simp) _
    have hbw1 := hbc.trans (hbW1.mono hbc.size)
    have hsz1 : W1.heap.size = w.heap.size + 4 := by rw [hW1]; simp [hszc]
    have hS1 := hS.ext hbW1
    have z1 : W1.cell? ⟨w.heap.size + 2, 1, none⟩ = some (.slice B m d) := by
      have h := ((Blk.new wc 34 [.slice A n c, .slice B m d, .int .i64 o, .int .i64 k, .int .i64 b, .int .i64 i, .int .i64 t, .slice D q e]).alloc (.cells #[.int .i64 (-1)] 3)).cell (i := 1) rfl
      rw [hW1]; rw [hszc] at h; exact h
    have z2 : W1.cell? ⟨w.heap.size + 3, 0, none⟩ = some (.int .i64 (-1)) := by
      have h := (Blk.new (wc.alloc (.cells #[.slice A n c, .slice B m d, .int .i64 o, .int .i64 k, .int .i64 b, .int .i64 i, .int .i64 t, .slice D q e] 34)) 3 [.int .i64 (-1)]).cell (i := 0) rfl
      rw [World.size_alloc, hszc] at h
      rw [hW1]; exact h
    have hB1 := hB.ext hbw1
    rw [hszc]
    clear hW1 x0 x1 x2 x3 x4 x5 x6 x7 hXc hS hbc hbW1 CO hszc hB
    go_wp2
    generalize ha : Act.mk _ _ = a0
    refine wpIn_wide.1 (wpIn_rangeFunc_ownH (F := Fence.wide) (n := 20) rfl (by omega) (gf := 89) (lb := #[.pointer (some ⟨w.heap.size + 2, 0, none⟩), .pointer (some ⟨w.heap.size + 3, 0, none⟩)]) (by rw [← ha]; rfl) trivial (enters_of Tryz.func89 (by kernel_rfl) rfl)
      (oth_stops bags (-1) Fence.wide 19 trivial rfl (by omega) (w.heap.size + 2) (w.heap.size + 3) w.heap.size m d B Hm.out (by omega) hBlt W1 (by omega) z1 z2 (by omega) (by omega) hB1)
      (fun h k => h.trans k) (Kept.put (by omega) (by omega)) (Below.refl _ _) (fun _ => rfl)
      (fun pre W => Below w.heap.size w W ∧ Blk W (w.heap.size + 1) 3 [.int .i64 (wrap64 (o + k + sw + isum (pre.map Bag.holds)))] ∧ W1.heap.size ≤ W.heap.size)
      (fun _ _ _ => False) ?own (fun _ _ _ _ _ hs _ _ => hs) ⟨hbw1, by rw [show isum (([] : List Bag).map Bag.holds) = 0 from rfl, Int.add_zero, wrap64_id (by omega)]; exact hS1, Nat.le_refl _⟩
      (fun x a' W => ∃ Bx, W1.heap.size ≤ Bx ∧ Blk W Bx 80 (Bag.enc x) ∧ a' = { tmps := (a0.tmps.setIfInBounds 16 (Bag.val x)).setIfInBounds 4 (.pointer (some ⟨Bx, 0, none⟩)), defers := [] })
      (fun x a' _ X Y row hs hg hr => by obtain ⟨Bx, h1, h2, h3⟩ := hs; exact ⟨Bx, h1, Blk.kept h2 hg (fun r e => (hr r e).2), h3⟩)
      ?assign ?body ?done ?stop)
    case own =>
      rintro pre X Y row ⟨h1, h2, h5⟩ hg hr
      have hr' := fun r e => (hr r e).2
      exact ⟨below_grown h1 (by omega) hg (fun k e => by have := (hr k e).1; omega), Blk.kept h2 hg hr', Nat.le_trans h5 hg.size⟩
    case assign =>
      subst ha
      rintro l pre x W K ⟨h1, h2, h5⟩ hK
      dsimp only [Bag.val]
      gi_wp2
      have hR := (Rnd.refl W1.heap.size w.heap.size (w.heap.size + 3) W).ext (ext_alloc W (.cells #[.int .i64 x.window, .int .i64 x.sl, .int .i64 x.written, .int .i64 x.holds, .int .i64 x.now, .bool x.opened] 80)) (by omega) (by omega)
      exact hK _ _ hR.kf hR.kp ⟨h1.alloc (by omega) _, h2.alloc _, by simp; omega⟩ ⟨W.heap.size, h5, Blk.new W 80 (Bag.enc x), rfl⟩
    case body =>
      subst ha
      rintro l pre x a' W hl - ⟨h1, h2, h5⟩ ⟨Bx, hBx, hx, rfl⟩ hlt
      simp only [List.setIfInBounds_toArray, List.set_cons_succ, List.set_cons_zero]
      have y3 : W.cell? ⟨Bx, 3, none⟩ = _ := hx.cell (i := 3) rfl
      have s0 : W.cell? ⟨w.heap.size + 1, 0, none⟩ = _ := h2.cell (i := 0) rfl
      have f0 := h2.free 0
      have hsn : wrap64 (wrap64 (o + k + sw + isum (pre.map Bag.holds)) + x.holds) = wrap64 (o + k + sw + isum ((pre ++ [x]).map Bag.holds)) := by
        rw [List.map_append, isum_append, wrap64_add, show isum ([x].map Bag.holds) = x.holds by simp [isum]]
        congr 1
        omega
      have Hsn := Lib.hid hsn
      have h2' := h2.set 0 (.int .i64 (wrap64 (o + k + sw + isum ((pre ++ [x]).map Bag.holds))))
      have hR := (Rnd.refl W1.heap.size w.heap.size (w.heap.size + 3) W).setCell (p := ⟨w.heap.size + 1, 0, none⟩) (by simp) (by simp) (.int .i64 (wrap64 (o + k + sw + isum ((pre ++ [x]).map Bag.holds))))
      clear hsn hx
      generalize wrap64 (o + k + sw + isum (pre.map Bag.holds)) = cur at *
      gi_wp2
      rw [Hsn.out]
      exact ⟨hR.kf, hR.kp, h1.setCell (by simp) _, h2', by have := hR.sz; omega⟩
    case done =>
      subst ha
      rintro D' ys W hD rfl ⟨h1, h2, h5⟩ hK
      have hall : othL bags (-1) m = bags := by rw [← Hm.out]; exact othL_all bags
      rw [hall, Hres.out, wrap64_id (by have := Hres.out; omega)] at h2
      have s0 : W.cell? ⟨w.heap.size + 1, 0, none⟩ = _ := h2.cell (i := 0) rfl
      go_wp2
      have p4 : Below w.heap.size w (W.putObj D' (.deferred none)) := h1.trans (belowK_b (w := w) (Nat.le_refl _) W D' _ _ (by omega) hK rfl rfl)
      refine ⟨by simp, .inl ⟨_, _, rfl, run_takeDeferred hK, .int .i64 res, by simp [results, Tryz.results45, go_sem], rfl, p4⟩⟩
    case stop =>
      rintro D' cc pre W _ _ h _
      exact h.elim
end
end Go.Proofs.YtnjdlhhgnamigaaGreat

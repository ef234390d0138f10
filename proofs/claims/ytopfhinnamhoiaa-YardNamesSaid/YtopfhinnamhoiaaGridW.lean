/- The grid: data, and the walks of valid, flows, above, Flows, Blown, Low, Spare. -/
import Derived.Deep.DeepCutAuto
import Derived.RangeFuncNested
import Derived.RangeFuncBound
import Derived.RangeFuncCalls
import Derived.RangeFuncLeaves
import Derived.Shelf.Abstract
import Derived.WalkKit
import Derived.OwnWalkIn
import Derived.TacticsInMore
import Derived.LoopNIn
import Derived.LoopIn
import Derived.Maps.RangeWalk
import Derived.Sort.CutIn
import Derived.Test.YtopfhinnamhoiaaRoadW
import Derived.Test.YtopfhinnamhoiaaGround
/- The grid as plain data: validity, flows, drops. -/
namespace Go.Yd
open Go.Pl
def Gd.node (g : Gd) (i : Nat) : Nd := g.nodes.getD i default
theorem Gd.node_get {g : Gd} {i : Nat} (h : i < g.nodes.length) : g.nodes[i] = g.node i := by simp [Gd.node, h]
def ndIn (i : Nat) (d : Nd) : Bool := decide ((0 : Int) ≤ d.parent ∧ d.parent ≤ (i : Int) - 1) && (decide ((0 : Int) ≤ d.fuse ∧ d.fuse ≤ 10000000) && decide ((0 : Int) ≤ d.sag ∧ d.sag ≤ 1000))
def ndRoot (d : Nd) : Bool := (d.parent == -1) && ((d.fuse == 0) && (d.sag == 0))
def ndLoad (d : Nd) : Bool := decide (0 ≤ d.load.lo) && (decide (d.load.lo ≤ d.load.hi) && decide (d.load.hi ≤ 1000000))
def ndSel (i : Nat) (d : Nd) : Bool := if i = 0 then ndRoot d else ndIn i d
def ndB (i : Nat) (d : Nd) : Bool := ndSel i d && ndLoad d
def Gd.allB (g : Gd) : Nat → Nat → Bool
  | 0, _ => true
  | k + 1, i => ndB i (g.node i) && g.allB k (i + 1)
def Gd.okB (g : Gd) : Bool := decide ((1 : Int) ≤ g.nodes.length ∧ (g.nodes.length : Int) ≤ 30) && (decide (0 ≤ g.limit ∧ g.limit ≤ 1000000000000) && g.allB g.nodes.length 0)
structure Nd.okAt (i : Nat) (d : Nd) : Prop where
  load : 0 ≤ d.load.lo ∧ d.load.lo ≤ d.load.hi ∧ d.load.hi ≤ 1000000
  root : i = 0 → d.parent = -1 ∧ d.fuse = 0 ∧ d.sag = 0
  inn : 0 < i → (0 ≤ d.parent ∧ d.parent < i) ∧ (0 ≤ d.fuse ∧ d.fuse ≤ 10000000) ∧ (0 ≤ d.sag ∧ d.sag ≤ 1000)
structure Gd.ok (g : Gd) : Prop where
  len : 1 ≤ g.nodes.length ∧ g.nodes.length ≤ 30
  lim : 0 ≤ g.limit ∧ g.limit ≤ 1000000000000
  nodes : ∀ i, i < g.nodes.length → (g.node i).okAt i
theorem ndB_iff (i : Nat) (d : Nd) : ndB i d = true ↔ d.okAt i := by
  unfold ndB ndSel
  rw [Bool.and_eq_true]
  have hl : ndLoad d = true ↔ (0 ≤ d.load.lo ∧ d.load.lo ≤ d.load.hi ∧ d.load.hi ≤ 1000000) := by simp [ndLoad]
  rw [hl]
  constructor
  · rintro ⟨h1, h2⟩
    split at h1
    · rename_i h0
      simp [ndRoot] at h1
      exact ⟨h2, fun _ => h1, fun h3 => by omega⟩
    · rename_i h0
      simp [ndIn] at h1
      exact ⟨h2, fun h3 => absurd h3 h0, fun h3 => ⟨⟨h1.1.1, by omega⟩, h1.2⟩⟩
  · rintro ⟨h1, h2, h3⟩
    refine ⟨?_, h1⟩
    split
    · rename_i h0
      simp [ndRoot, h2 h0]
    · rename_i h0
      have h4 := h3 (by omega)
      have h5 : d.parent ≤ (i : Int) - 1 := by omega
      simp only [ndIn, decide_eq_true (And.intro h4.1.1 h5), decide_eq_true h4.2.1, decide_eq_true h4.2.2, Bool.and_self]
theorem Gd.allB_iff (g : Gd) : ∀ (k i : Nat), g.allB k i = true ↔ ∀ j, i ≤ j → j < i + k → (g.node j).okAt j
  | 0, i => by simp [Gd.allB]; intro j h1 h2; omega
  | k + 1, i => by
    unfold Gd.allB
    rw [Bool.and_eq_true, ndB_iff, g.allB_iff k (i + 1)]
    constructor
    · rintro ⟨h1, h2⟩ j h3 h4
      by_cases e : j = i
      · subst e; exact h1
      · exact h2 j (by omega) (by omega)
    · intro h
      exact ⟨h i (Nat.le_refl _) (by omega), fun j h1 h2 => h j (by omega) (by omega)⟩
theorem Gd.okB_iff (g : Gd) : g.okB = true ↔ g.ok := by
  unfold Gd.okB
  rw [Bool.and_eq_true, Bool.and_eq_true, decide_eq_true_eq, decide_eq_true_eq, g.allB_iff]
  constructor
  · rintro ⟨h1, h2, h3⟩; exact ⟨by omega, h2, fun i hi => h3 i (by omega) (by omega)⟩
  · rintro ⟨h1, h2, h3⟩; exact ⟨by omega, h2, fun j h4 h5 => h3 j (by omega)⟩

/-- a node's number of the node that feeds it -/
def Gd.par (g : Gd) (i : Nat) : Nat := (g.node i).parent.toNat
/-- what flows when the last m nodes have handed theirs on; l: a load of each node -/
def Gd.fl (g : Gd) (l : Nat → Int) : Nat → Nat → Int
  | 0 => fun _ => 0
  | m + 1 =>
    let f := g.fl l m
    let i := g.nodes.length - 1 - m
    let f1 := upd f i (f i + l i)
    if 0 < i then upd f1 (g.par i) (f1 (g.par i) + f1 i) else f1
def Gd.flow (g : Gd) (l : Nat → Int) : Nat → Int := g.fl l g.nodes.length
def Gd.dr (g : Gd) (f : Nat → Int) : Nat → Nat → Int
  | 0 => fun _ => 0
  | i + 1 => let d := g.dr f i; if 0 < i then upd d i (d (g.par i) + (g.node i).sag * f i) else d
def Gd.drop (g : Gd) (f : Nat → Int) : Nat → Int := g.dr f g.nodes.length
def Gd.lo (g : Gd) (i : Nat) : Int := (g.node i).load.lo
def Gd.hi (g : Gd) (i : Nat) : Int := (g.node i).load.hi

/-- the sum of f below k -/
def tot (f : Nat → Int) : Nat → Int
  | 0 => 0
  | k + 1 => tot f k + f k
theorem tot_upd_ge (f : Nat → Int) (i : Nat) (v : Int) : ∀ k, k ≤ i → tot (upd f i v) k = tot f k
  | 0, _ => rfl
  | k + 1, h => by
    unfold tot
    rw [tot_upd_ge f i v k (by omega), upd_ne _ _ (by omega)]
theorem tot_upd_lt (f : Nat → Int) (i : Nat) (v : Int) : ∀ k, i < k → tot (upd f i v) k = tot f k - f i + v
  | 0, h => by omega
  | k + 1, h => by
    unfold tot
    by_cases e : i = k
    · subst e; rw [tot_upd_ge _ _ _ _ (Nat.le_refl _), upd_self]; omega
    · rw [tot_upd_lt f i v k (by omega), upd_ne _ _ (by omega)]; omega
theorem tot_ge {f : Nat → Int} (h : ∀ i, 0 ≤ f i) : ∀ k i, i < k → f i ≤ tot f k ∧ 0 ≤ tot f k
  | 0, i, hi => by omega
  | k + 1, i, hi => by
    unfold tot
    have h0 : 0 ≤ tot f k := by
      cases k with
      | zero => simp [tot]
      | succ k => exact (tot_ge h (k + 1) 0 (by omega)).2
    have := h k
    by_cases e : i = k
    · subst e; exact ⟨by omega, by omega⟩
    · have := tot_ge h k i (by omega); exact ⟨by omega, by omega⟩
theorem Gd.par_lt {g : Gd} (h : g.ok) {i : Nat} (h0 : 0 < i) (hi : i < g.nodes.length) : g.par i < i ∧ (g.node i).parent = g.par i := by
  have := (h.nodes i hi).inn h0
  unfold Gd.par
  omega
theorem Gd.fl_bd {g : Gd} (h : g.ok) {l : Nat → Int} (hl : ∀ i, i < g.nodes.length → 0 ≤ l i ∧ l i ≤ 1000000) : ∀ m, m ≤ g.nodes.length →
    (∀ i, 0 ≤ g.fl l m i ∧ g.fl l m i ≤ m * 1000000) ∧ tot (g.fl l m) (g.nodes.length - m) ≤ m * 1000000
  | 0, _ => ⟨fun i => by simp [Gd.fl], by
      have : ∀ k, tot (fun _ => 0) k = 0 := by intro k; induction k with | zero => rfl | succ k ih => simp [tot, ih]
      show tot (fun _ => 0) _ ≤ _
      rw [this]; simp⟩
  | m + 1, hm => by
    obtain ⟨ih1, ih2⟩ := g.fl_bd h hl m (by omega)
    have hlm := hl (g.nodes.length - 1 - m) (by omega)
    generalize hi : g.nodes.length - 1 - m = i at hlm
    have hk : g.nodes.length - m = i + 1 := by omega
    have hk2 : g.nodes.length - (m + 1) = i := by omega
    rw [hk] at ih2
    rw [hk2]
    generalize hf : g.fl l m = f at *
    have e1 : g.fl l (m + 1) = if 0 < i then upd (upd f i (f i + l i)) (g.par i) ((upd f i (f i + l i)) (g.par i) + (upd f i (f i + l i)) i) else upd f i (f i + l i) := by
      unfold Gd.fl
      simp only [hf, hi]
    unfold tot at ih2
    have hfi := ih1 i
    have h0t : 0 ≤ tot f i := by
      cases i with
      | zero => simp [tot]
      | succ k => exact (tot_ge (fun j => (ih1 j).1) (k + 1) 0 (by omega)).2
    have b1 : f i + l i ≤ (m + 1 : Nat) * 1000000 := by rw [Int.natCast_add, Int.add_mul]; simp only [Int.cast_ofNat_Int]; omega
    rw [e1]
    split
    · rename_i hpos
      have hp := Gd.par_lt h hpos (by omega)
      have hne : g.par i ≠ i := by omega
      rw [upd_self, upd_ne _ _ hne]
      have hpt := tot_ge (fun j => (ih1 j).1) i (g.par i) hp.1
      have hfp := ih1 (g.par i)
      have b2 : f (g.par i) + (f i + l i) ≤ (m + 1 : Nat) * 1000000 := by rw [Int.natCast_add, Int.add_mul]; simp only [Int.cast_ofNat_Int]; omega
      refine ⟨fun j => ?_, ?_⟩
      · by_cases e : j = g.par i
        · subst e; rw [upd_self]; exact ⟨by omega, b2⟩
        · rw [upd_ne _ _ e]
          by_cases e2 : j = i
          · subst e2; rw [upd_self]; exact ⟨by omega, b1⟩
          · rw [upd_ne _ _ e2]; have := ih1 j; rw [Int.natCast_add, Int.add_mul]; simp only [Int.cast_ofNat_Int]; omega
      · rw [tot_upd_lt _ _ _ _ hp.1, tot_upd_ge _ _ _ _ (Nat.le_refl _), upd_ne _ _ hne]
        rw [Int.natCast_add, Int.add_mul]; simp only [Int.cast_ofNat_Int]; omega
    · rename_i hpos
      have hz : i = 0 := by omega
      refine ⟨fun j => ?_, ?_⟩
      · by_cases e2 : j = i
        · subst e2; rw [upd_self]; exact ⟨by omega, b1⟩
        · rw [upd_ne _ _ e2]; have := ih1 j; rw [Int.natCast_add, Int.add_mul]; simp only [Int.cast_ofNat_Int]; omega
      · rw [hz]; simp only [tot]; omega
theorem Gd.dr_bd {g : Gd} (h : g.ok) {f : Nat → Int} (hf : ∀ i, 0 ≤ f i ∧ f i ≤ 30000000) : ∀ m, m ≤ g.nodes.length → ∀ i, 0 ≤ g.dr f m i ∧ g.dr f m i ≤ m * 30000000000
  | 0, _, i => by simp [Gd.dr]
  | m + 1, hm, i => by
    have ih := g.dr_bd h hf m (by omega)
    have hx : ((m + 1 : Nat) : Int) * 30000000000 = m * 30000000000 + 30000000000 := by rw [Int.natCast_add, Int.add_mul]; simp
    unfold Gd.dr
    simp only
    split
    · rename_i h0
      have h1 := (h.nodes m (by omega)).inn h0
      have h2 := mul_bd h1.2.2.1 h1.2.2.2 (hf m).1 (hf m).2
      have h3 := ih (g.par m)
      by_cases e : i = m
      · subst e; rw [upd_self, hx]; omega
      · rw [upd_ne _ _ e, hx]; have := ih i; omega
    · have := ih i; rw [hx]; omega
end Go.Yd

/- Walk: the grid's small functions; its validity. -/
namespace Go.Proofs.Ytopfhinnamhoiaa
open Go.RowKit Go.Bs Go.Yd Go.Pl Go.Sort

def GdAt (w : World) (A : Option Addr) (g : Gd) : Prop := Cells w A 5 Nd.enc g.nodes
theorem GdAt.ext {w w' : World} {A : Option Addr} {g : Gd} (h : GdAt w A g) (hb : Below w.heap.size w w') : GdAt w' A g := Cells.ext h hb
theorem GdAt.node {w : World} {A : Option Addr} {g : Gd} (h : GdAt w A g) {k : Nat} (hk : k < g.nodes.length) :
    ∃ b off, A = some ⟨b, off, none⟩ ∧ b < w.heap.size ∧ w.cell? ⟨b, off + k * 5, none⟩ = some (.int .i64 (g.node k).parent) ∧ w.cell? ⟨b, off + k * 5 + 1, none⟩ = some (.int .i64 (g.node k).load.lo) ∧ w.cell? ⟨b, off + k * 5 + 2, none⟩ = some (.int .i64 (g.node k).load.hi) ∧ w.cell? ⟨b, off + k * 5 + 3, none⟩ = some (.int .i64 (g.node k).fuse) ∧ w.cell? ⟨b, off + k * 5 + 4, none⟩ = some (.int .i64 (g.node k).sag) :=
  Cells.at5 h hk (by rw [Gd.node_get hk]; rfl)
theorem sz136 : ∀ w, (sizeOf 136).run Try.prog w = .ok 5 w := fun w => by kernel_rfl
theorem sz73 : ∀ w, (sizeOf 73).run Try.prog w = .ok 2 w := fun w => by kernel_rfl

theorem plus_any (a0 a1 b0 b1 x : Int) (w : World) (ha : (0 ≤ a0 ∧ a0 ≤ 1000000000000) ∧ (0 ≤ a1 ∧ a1 ≤ 1000000000000)) (hb : (0 ≤ b0 ∧ b0 ≤ 1000000000000) ∧ (0 ≤ b1 ∧ b1 ≤ 1000000000000)) (hx : 0 ≤ x ∧ x ≤ 1000) :
    Calls Try.prog 103 #[.agg #[.int .i64 a0, .int .i64 a1], .agg #[.int .i64 b0, .int .i64 b1], .int .i64 x] w fun e w' => e = .returned (.agg #[.int .i64 (a0 + x * b0), .int .i64 (a1 + x * b1)]) ∧ Below w.heap.size w w' := by
  have h1 := mul_bd hx.1 hx.2 hb.1.1 hb.1.2
  have h2 := mul_bd hx.1 hx.2 hb.2.1 hb.2.2
  generalize hr0 : a0 + x * b0 = r0
  generalize hr1 : a1 + x * b1 = r1
  have Hr0 := Lib.hid hr0
  have Hr1 := Lib.hid hr1
  clear hr0 hr1
  go_enter Try.func103, Try.ntmps103
  go_wp2
  rw [Hr0.out, Hr1.out]
  refine bodyPost_ret (v := .agg #[.int .i64 r0, .int .i64 r1]) (by simp [results, Try.results103, go_sem]) rfl ?_
  exact ⟨rfl, ((Below.refl _ _).alloc (Nat.le_refl _) _ |>.alloc (by simp) _).alloc (by simp; omega) _⟩

theorem limit_any (g : Gd) (A : Option Addr) (n cap : Nat) (i : Int) (w : World) :
    Calls Try.prog 79 #[.agg #[.slice A n cap, .int .i64 g.limit], .int .i64 i] w fun e w' => e = .returned (.int .i64 g.limit) ∧ Below w.heap.size w w' := by
  go_enter Try.func79, Try.ntmps79
  go_wp2
  go_ret
  exact ⟨rfl, ext_alloc _ _⟩

def Gd.fuseOf (g : Gd) (i : Nat) : Int := if i = 0 then 1000000000000 else (g.node i).fuse
theorem fuse_any (g : Gd) (A : Option Addr) (n cap : Nat) (i : Nat) (w : World) (hi : i < g.nodes.length) (hn : g.nodes.length = n) (hd : GdAt w A g) :
    Calls Try.prog 78 #[.agg #[.slice A n cap, .int .i64 g.limit], .int .i64 i] w fun e w' => e = .returned (.int .i64 (Gd.fuseOf g i)) ∧ Below w.heap.size w w' := by
  obtain ⟨b, off, rfl, hb, c0, c1, c2, c3, c4⟩ := hd.node hi
  have hin : (0 : Int) ≤ (i : Int) ∧ (i : Int) < (n : Int) := by omega
  generalize hres : Gd.fuseOf g i = res
  have Hres := Lib.hid hres
  clear hres
  by_cases h0 : i = 0
  · subst h0
    go_enter Try.func78, Try.ntmps78
    go_wp2
    go_ret
    exact ⟨ret_congr (int_congr (by rw [← Hres.out]; rfl)), ext_alloc _ _⟩
  · have h0' : ((i : Int) == 0) = false := by simp; omega
    have H0 := Lib.hid h0
    clear h0
    go_enter Try.func78, Try.ntmps78
    go_wp2
    go_ret
    exact ⟨ret_congr (int_congr (by rw [← Hres.out]; unfold Gd.fuseOf; rw [if_neg H0.out])), ext_alloc _ _⟩

set_option maxRecDepth 100000 in
set_option maxHeartbeats 4000000 in
theorem gvalid_any (g : Gd) (A : Option Addr) (n cap : Nat) (w : World) (hn : g.nodes.length = n) (hm : n ≤ 9223372036854775807) (hd : GdAt w A g) :
    Calls Try.prog 75 #[.agg #[.slice A n cap, .int .i64 g.limit]] w fun e w' => e = .returned (.bool g.okB) ∧ Below w.heap.size w w' := by
  have hb0 := ext_alloc w (.cells #[.slice A n cap, .int .i64 g.limit] 43)
  generalize hres : g.okB = res
  have Hres := Lib.hid hres
  clear hres
  by_cases h1 : (1 : Int) ≤ n ∧ (n : Int) ≤ 30
  · by_cases h2 : 0 ≤ g.limit ∧ g.limit ≤ 1000000000000
    · have hok : g.allB n 0 = res := by rw [← Hres.out]; unfold Gd.okB; rw [hn, decide_eq_true h1, decide_eq_true h2]; rfl
      have Hok := Lib.hid hok
      have hn30 := h1.2
      have C1 := Lib.hid (within_t h1)
      have C2 := Lib.hid (within_t h2)
      clear h1 h2 hok
      go_enter Try.func75, Try.ntmps75
      go_wp2_with fail
      refine (C1.out _).mono ?_; rintro e w1 ⟨rfl, rfl⟩
      go_wp2_with fail
      refine (C2.out _).mono ?_; rintro e w1 ⟨rfl, rfl⟩
      go_wp2
      clear C1 C2
      go_loopw [20] (fun x wr => ∃ i k, x = .int .i64 (i : Nat) ∧ Hid (i + k = n) ∧ i ≤ n ∧ Hid (g.allB k i = res) ∧ Below w.heap.size w wr) (fun x _ => (n - intOf x).toNat)
      case atStart => exact ⟨0, n, rfl, Lib.hid (by omega), by omega, Hok, hb0⟩
      case round =>
        clear hb0
        obtain ⟨i, k, rfl, Hk, hin, Ha, hb⟩ := hrel
        by_cases hlt : i < n
        · have hlt' : (i : Int) < n := by omega
          have hi0 : (0 : Int) ≤ i := by omega
          obtain ⟨b, off, rfl, -, c0, c1, c2, c3, c4⟩ := (hd.ext hb).node (k := i) (by omega)
          have hk1 : g.allB k i = (ndB i (g.node i) && g.allB (k - 1) (i + 1)) := by
            obtain ⟨k', rfl⟩ : ∃ k', k = k' + 1 := ⟨k - 1, by have := Hk.out; omega⟩
            rfl
          have Hk1 := Lib.hid hk1
          clear hk1
          have m0 := cell_lt c0
          go_upto_region 6 with fail
          have hb2 : Below w.heap.size w (wr.alloc (.cells #[.int .i64 (g.node i).parent, .int .i64 (g.node i).load.lo, .int .i64 (g.node i).load.hi, .int .i64 (g.node i).fuse, .int .i64 (g.node i).sag] 136)) := ext_trans hb (ext_alloc _ _)
          have hbs : wr.heap.size < (wr.alloc (.cells #[.int .i64 (g.node i).parent, .int .i64 (g.node i).load.lo, .int .i64 (g.node i).load.hi, .int .i64 (g.node i).fuse, .int .i64 (g.node i).sag] 136)).heap.size := by simp
          have x0 : (wr.alloc (.cells #[.int .i64 (g.node i).parent, .int .i64 (g.node i).load.lo, .int .i64 (g.node i).load.hi, .int .i64 (g.node i).fuse, .int .i64 (g.node i).sag] 136)).cell? ⟨wr.heap.size, 0, none⟩ = some (.int .i64 (g.node i).parent) := by simp
          have x1 : (wr.alloc (.cells #[.int .i64 (g.node i).parent, .int .i64 (g.node i).load.lo, .int .i64 (g.node i).load.hi, .int .i64 (g.node i).fuse, .int .i64 (g.node i).sag] 136)).cell? ⟨wr.heap.size, 1, none⟩ = some (.int .i64 (g.node i).load.lo) := by simp
          have x2 : (wr.alloc (.cells #[.int .i64 (g.node i).parent, .int .i64 (g.node i).load.lo, .int .i64 (g.node i).load.hi, .int .i64 (g.node i).fuse, .int .i64 (g.node i).sag] 136)).cell? ⟨wr.heap.size, 2, none⟩ = some (.int .i64 (g.node i).load.hi) := by simp
          have x3 : (wr.alloc (.cells #[.int .i64 (g.node i).parent, .int .i64 (g.node i).load.lo, .int .i64 (g.node i).load.hi, .int .i64 (g.node i).fuse, .int .i64 (g.node i).sag] 136)).cell? ⟨wr.heap.size, 3, none⟩ = some (.int .i64 (g.node i).fuse) := by simp
          have x4 : (wr.alloc (.cells #[.int .i64 (g.node i).parent, .int .i64 (g.node i).load.lo, .int .i64 (g.node i).load.hi, .int .i64 (g.node i).fuse, .int .i64 (g.node i).sag] 136)).cell? ⟨wr.heap.size, 4, none⟩ = some (.int .i64 (g.node i).sag) := by simp
          generalize wr.alloc (.cells #[.int .i64 (g.node i).parent, .int .i64 (g.node i).load.lo, .int .i64 (g.node i).load.hi, .int .i64 (g.node i).fuse, .int .i64 (g.node i).sag] 136) = W at *
          clear c0 c1 c2 c3 c4 m0
          generalize hnd : g.node i = d at *
          have Hnd := Lib.hid hnd
          clear hnd
          go_cut [5] (fun z W' => z = .bool (ndIn i d) ∧ W' = W)
          case first =>
            by_cases p1 : (0 : Int) ≤ d.parent ∧ d.parent ≤ (i : Int) - 1
            · by_cases p2 : (0 : Int) ≤ d.fuse ∧ d.fuse ≤ 10000000
              · have hv : ndIn i d = decide ((0 : Int) ≤ d.sag ∧ d.sag ≤ 1000) := by unfold ndIn; rw [decide_eq_true p1, decide_eq_true p2]; rfl
                have Hv := Lib.hid hv
                have C1 := Lib.hid (within_t p1)
                have C2 := Lib.hid (within_t p2)
                clear p1 p2 hv
                go_wp2_with fail
                refine (C1.out _).mono ?_; rintro e w1 ⟨rfl, rfl⟩
                go_wp2_with fail
                refine (C2.out _).mono ?_; rintro e w1 ⟨rfl, rfl⟩
                go_wp2_with fail
                refine (within_any _ _ _ _).mono ?_; rintro e w1 ⟨rfl, rfl⟩
                go_wp2
                go_meet
                case rel => exact ⟨bool_congr (by rw [Hv.out, Bool.decide_and]), rfl⟩
              · have hv : ndIn i d = false := by unfold ndIn; rw [decide_eq_false p2]; simp
                have Hv := Lib.hid hv
                have C1 := Lib.hid (within_t p1)
                have C2 := Lib.hid (within_f p2)
                clear p1 p2 hv
                go_wp2_with fail
                refine (C1.out _).mono ?_; rintro e w1 ⟨rfl, rfl⟩
                go_wp2_with fail
                refine (C2.out _).mono ?_; rintro e w1 ⟨rfl, rfl⟩
                go_wp2
                go_meet
                case rel => exact ⟨bool_congr Hv.out.symm, rfl⟩
            · have hv : ndIn i d = false := by unfold ndIn; rw [decide_eq_false p1]; simp
              have Hv := Lib.hid hv
              have C1 := Lib.hid (within_f p1)
              clear p1 hv
              go_wp2_with fail
              refine (C1.out _).mono ?_; rintro e w1 ⟨rfl, rfl⟩
              go_wp2
              go_meet
              case rel => exact ⟨bool_congr Hv.out.symm, rfl⟩
          case rest =>
            obtain ⟨rfl, rfl⟩ := hcut
            go_upto_if 41 with fail
            go_cut [5] (fun z W' => z = .bool (ndSel i d) ∧ W' = wc)
            case first =>
              by_cases hi : i = 0
              · have Hi := Lib.hid hi
                have hi' : ((i : Int) == 0) = true := by simp [hi]
                clear hi
                cases p1 : (d.parent == -1)
                · have Hv := Lib.hid (show ndRoot d = false by unfold ndRoot; rw [p1]; rfl)
                  go_wp2
                  go_meet
                  case rel => exact ⟨bool_congr (by unfold ndSel; rw [if_pos Hi.out, Hv.out]), rfl⟩
                · cases p2 : (d.fuse == 0)
                  · have Hv := Lib.hid (show ndRoot d = false by unfold ndRoot; rw [p1, p2]; rfl)
                    go_wp2
                    go_meet
                    case rel => exact ⟨bool_congr (by unfold ndSel; rw [if_pos Hi.out, Hv.out]), rfl⟩
                  · have Hv := Lib.hid (show ndRoot d = (d.sag == 0) by unfold ndRoot; rw [p1, p2]; rfl)
                    go_wp2
                    go_meet
                    case rel => exact ⟨bool_congr (by unfold ndSel; rw [if_pos Hi.out, Hv.out]), rfl⟩
              · have Hi := Lib.hid hi
                have hi' : ((i : Int) == 0) = false := by simp; omega
                clear hi
                go_wp2
                go_meet
                case rel => exact ⟨bool_congr (by unfold ndSel; rw [if_neg Hi.out]), rfl⟩
            case rest =>
              obtain ⟨rfl, rfl⟩ := hcut
              go_upto_region 9 with fail
              go_cut [5, 77] (fun _ z W' => z = .bool (!ndB i d) ∧ W' = wc)
              case first =>
                have Hv := Lib.hid (show ndB i d = (ndSel i d && ndLoad d) from rfl)
                cases hq : ndSel i d
                · rw [hq] at Hv
                  clear hq
                  go_wp2
                  go_meet
                  case rel => exact ⟨bool_congr (by rw [Hv.out]; rfl), rfl⟩
                · rw [hq] at Hv
                  clear hq
                  by_cases p1 : 0 ≤ d.load.lo
                  · by_cases p2 : d.load.lo ≤ d.load.hi
                    · have Hl := Lib.hid (show ndLoad d = decide (d.load.hi ≤ 1000000) by unfold ndLoad; rw [decide_eq_true p1, decide_eq_true p2]; rfl)
                      go_wp2
                      go_meet
                      case rel => exact ⟨bool_congr (by rw [Hv.out, Hl.out]; by_cases hh : d.load.hi ≤ 1000000 <;> simp [hh] <;> omega), rfl⟩
                    · have Hl := Lib.hid (show ndLoad d = false by unfold ndLoad; rw [decide_eq_false p2]; simp)
                      have p2' : d.load.hi < d.load.lo := by omega
                      go_wp2
                      go_meet
                      case rel => exact ⟨bool_congr (by rw [Hv.out, Hl.out]; rfl), rfl⟩
                  · have Hl := Lib.hid (show ndLoad d = false by unfold ndLoad; rw [decide_eq_false p1]; rfl)
                    have p1' : d.load.lo < 0 := by omega
                    go_wp2
                    go_meet
                    case rel => exact ⟨bool_congr (by rw [Hv.out, Hl.out]; rfl), rfl⟩
              case rest =>
                obtain ⟨rfl, rfl⟩ := hcut
                clear x0 x1 x2 x3 x4
                cases hq : ndB i d
                · have hr : res = false := by rw [← Ha.out, Hk1.out, hq]; rfl
                  have Hr := Lib.hid hr
                  clear hq hr
                  go_wp2
                  go_ret
                  exact ⟨ret_congr (bool_congr Hr.out.symm), hb2⟩
                · have Hr := Lib.hid (show g.allB (k - 1) (i + 1) = res by rw [← Ha.out, Hk1.out, hq]; rfl)
                  clear hq
                  go_wp2
                  go_roundw
                  case rel => exact ⟨i + 1, k - 1, by go_num, Lib.hid (by have := Hk.out; omega), by omega, Hr, hb2⟩
                  case measure => simp [intOf]; omega
        · have hr : res = true := by rw [← Ha.out, show k = 0 by have := Hk.out; omega]; rfl
          have Hr := Lib.hid hr
          clear hr
          go_wp2
          go_ret
          exact ⟨ret_congr (bool_congr Hr.out.symm), hb⟩
    · have hr : res = false := by rw [← Hres.out]; unfold Gd.okB; rw [decide_eq_false h2]; simp
      subst hr
      have C1 := Lib.hid (within_t h1)
      have C2 := Lib.hid (within_f h2)
      clear h1 h2
      go_enter Try.func75, Try.ntmps75
      go_wp2_with fail
      refine (C1.out _).mono ?_; rintro e w1 ⟨rfl, rfl⟩
      go_wp2_with fail
      refine (C2.out _).mono ?_; rintro e w1 ⟨rfl, rfl⟩
      go_wp2
      go_ret
      exact ⟨rfl, hb0⟩
  · have hr : res = false := by rw [← Hres.out]; unfold Gd.okB; rw [hn, decide_eq_false h1]; rfl
    subst hr
    have C1 := Lib.hid (within_f h1)
    clear h1
    go_enter Try.func75, Try.ntmps75
    go_wp2_with fail
    refine (C1.out _).mono ?_; rintro e w1 ⟨rfl, rfl⟩
    go_wp2
    go_ret
    exact ⟨rfl, hb0⟩
end Go.Proofs.Ytopfhinnamhoiaa

/- slices.Backward over the grid's nodes. -/
namespace Go.Proofs.Ytopfhinnamhoiaa
open Go.RowKit Go.Bs Go.Yd Go.Pl Go.Sort

/-- a number of a node -/
abbrev Ix (n : Nat) := { x : Nat // x < n }
/-- the k numbers that come first, from the greatest on -/
def backs (n : Nat) : (k : Nat) → k ≤ n → List (Ix n)
  | 0, _ => []
  | k + 1, h => backs n k (by omega) ++ [⟨n - 1 - k, by omega⟩]
theorem backs_len (n : Nat) : ∀ k h, (backs n k h).length = k
  | 0, _ => rfl
  | k + 1, h => by simp [backs, backs_len n k]

theorem back_any (A : Option Addr) (n cap : Nat) (w : World) :
    Calls Try.prog 102 #[.slice A n cap] w fun e w' => e = .returned (.func (.func 127) #[] #[.pointer (some ⟨w.heap.size, 0, none⟩)]) ∧ w' = w.alloc (.cells #[.slice A n cap] 41) := by
  go_enter Try.func102, Try.ntmps102
  go_wp2
  go_ret
  exact ⟨rfl, rfl⟩

/-- What a round keeps: what lay below n₀, and the box Bs. -/
def Kept (n₀ Bs : Nat) (X Y : World) : Prop := Below n₀ X Y ∧ Y.cell? ⟨Bs, 0, none⟩ = X.cell? ⟨Bs, 0, none⟩
theorem Kept.trans {n₀ Bs : Nat} {X Y Z : World} (h : Kept n₀ Bs X Y) (k : Kept n₀ Bs Y Z) : Kept n₀ Bs X Z := ⟨h.1.trans k.1, k.2.trans h.2⟩
theorem Kept.put {n₀ Bs : Nat} {w : World} (hn : n₀ ≤ w.heap.size) (hB : Bs < w.heap.size) (W : World) (l : Nat) (o o' : Obj) (hl : w.heap.size ≤ l) (h : W.heap[l]? = some o) (hc : o.isCells = false) (hw : o.isWalk = false) : Kept n₀ Bs W (W.putObj l o') := by
  refine ⟨belowK_b hn W l o o' hl h hc hw, ?_⟩
  have hne : Bs ≠ l := by omega
  simp [World.cell?, World.putObj, Ne.symm hne]

/-- How far a round has come. -/
structure Rnd (B n₀ Bs : Nat) (W W' : World) : Prop where
  kf : KeepsFrom B W W'
  kp : Kept n₀ Bs W W'
  sz : W.heap.size ≤ W'.heap.size
theorem Rnd.refl (B n₀ Bs : Nat) (W : World) : Rnd B n₀ Bs W W := ⟨KeepsFrom.refl _ _, ⟨Below.refl _ _, rfl⟩, Nat.le_refl _⟩
theorem Rnd.ext {B n₀ Bs : Nat} {W W' W'' : World} (h : Rnd B n₀ Bs W W') (hb : Below W'.heap.size W' W'') (h1 : n₀ ≤ W.heap.size) (h2 : Bs < W.heap.size) : Rnd B n₀ Bs W W'' :=
  ⟨h.kf.trans ⟨hb.size, fun k _ _ hk _ => (hb.block k (Array.getElem?_eq_some_iff.1 hk).1).trans hk⟩,
   h.kp.trans ⟨hb.mono (Nat.le_trans h1 h.sz), hb.cell (p := ⟨Bs, 0, none⟩) (Nat.lt_of_lt_of_le h2 h.sz)⟩, Nat.le_trans h.sz hb.size⟩
theorem Rnd.setCell {B n₀ Bs : Nat} {W W' : World} {p : Addr} (h : Rnd B n₀ Bs W W') (h1 : n₀ ≤ p.block) (h2 : Bs ≠ p.block) (u : Value) : Rnd B n₀ Bs W (W'.setCell p u) := by
  refine ⟨h.kf.trans ((KeepsOthers.setCell _ _ _).from _), h.kp.trans ⟨(Below.refl _ _).setCell h1 _, ?_⟩, ?_⟩
  · have hh : (W'.setCell p u).heap[Bs]? = W'.heap[Bs]? := Below.heap_setCell W' p u Bs h2
    simp [World.cell?, hh]
  · have := h.sz
    simpa [World.setCell] using this

section
attribute [local go_sem] Oper.semAt_some
set_option maxRecDepth 100000 in
set_option maxHeartbeats 2000000 in
theorem back1_in (g : Gd) (F : Fence) (m : Nat) (h : F.fn 127) (hro : F.round = none) (hm : 1 ≤ m) (l Bs n₀ n cap : Nat) (A : Option Addr) (hn : g.nodes.length = n) (hn9 : n ≤ 1000000000) (hA : ∀ k, A.map (·.block) = some k → k < n₀) (J Jx : List (Ix n) → World → Prop)
    (hY : ∀ pre x W, J pre W → pre.length < n → YieldAt F (m - 1) Try.prog l #[.int .i64 (x.1 : Int), Nd.val (g.node x.1)] W fun e W' =>
      (e = .returned (.bool true) ∧ J (pre ++ [x]) W' ∧ Kept n₀ Bs W W') ∨ (e = .returned (.bool false) ∧ Jx (pre ++ [x]) W'))
    (W : World) (hBs : W.cell? ⟨Bs, 0, none⟩ = some (.slice A n cap)) (hc : GdAt W A g) (h0 : J [] W) :
    CallsIn F m Try.prog 127 #[.func (.yield l) #[] #[], .pointer (some ⟨Bs, 0, none⟩)] W fun e W' => (∃ v, e = .returned v) ∧
      ((∃ ys, ys = backs n n (Nat.le_refl _) ∧ J ys W') ∨ (∃ pre, (∃ k, ∃ h : k ≤ n, pre = backs n k h) ∧ Jx pre W')) := by
  refine callsIn_of_wp Try.func127 rfl h ?_ hro
  simp only [Try.ntmps127, List.size_toArray, List.length_cons, List.length_nil, Nat.reduceAdd, Nat.reduceSub, Array.replicate_succ, Array.replicate_zero, List.push_toArray, List.append_toArray, List.nil_append, List.cons_append]
  gi_wp2
  gi_loopw [3] (fun i wr => ∃ k : Nat, ∃ h : k ≤ n, ∃ x : Int, i = .int .i64 x ∧ x = (n : Int) - 1 - k ∧ J (backs n k h) wr ∧ Kept n₀ Bs W wr)
    (fun i _ => (intOf i + 1).toNat)
  case atStart => exact ⟨0, Nat.zero_le _, _, rfl, by simp, h0, ⟨Below.refl _ _, rfl⟩⟩
  case round =>
    obtain ⟨k, hk, x, rfl, hx, hJs, hnx⟩ := hrel
    have hBs' := hnx.2.trans hBs
    by_cases hlt : k < n
    · obtain ⟨j, rfl⟩ : ∃ j : Nat, x = j := ⟨n - 1 - k, by omega⟩
      have hj : j = n - 1 - k := by omega
      have hjlt : j < n := by omega
      have hjn : (j : Int) < n := by omega
      have hj0 : (0 : Int) ≤ j := by omega
      have hcw : GdAt wr A g := Cells.keep hc (fun p _ hp => hnx.1.cell (hA _ hp))
      obtain ⟨b, off, rfl, -, c0, c1, c2, c3, c4⟩ := hcw.node (k := j) (by omega)
      obtain ⟨fn, tmps, assign, body, hy, hR⟩ := hY _ ⟨j, hjlt⟩ wr hJs (by rw [backs_len]; exact hlt)
      dsimp only [Nd.val] at hy
      have hnext : backs n (k + 1) hlt = backs n k hk ++ [⟨j, hjlt⟩] := by subst hj; rfl
      have Hnext := Lib.hid hnext
      have Hx := Lib.hid hx
      have Hj := Lib.hid hj
      clear hnext hx hj hcw
      gi_wp2
      refine hR.mono ?_
      rintro e W3 (⟨rfl, hJ3, hk3⟩ | ⟨rfl, hJx3⟩)
      · gi_wp2
        go_roundw
        case rel => exact ⟨k + 1, by omega, _, rfl, by rw [Hx.out]; omega, by rw [Hnext.out]; exact hJ3, hnx.trans hk3⟩
        case measure => simp [intOf]
      · gi_wp2
        refine bodyPost_ret (results_none rfl _ _ _) rfl ?_
        exact ⟨⟨_, rfl⟩, .inr ⟨_, ⟨k + 1, by omega, Hnext.out.symm⟩, hJx3⟩⟩
    · obtain rfl : k = n := by omega
      have hx1 : x = -1 := by omega
      subst hx1
      clear hx
      gi_wp2
      go_end0
      exact ⟨⟨_, rfl⟩, .inl ⟨_, rfl, hJs⟩⟩

theorem back_stops (g : Gd) (F : Fence) (m : Nat) (h : F.fn 127) (hro : F.round = none) (hm : 1 ≤ m) (Bs n₀ n cap : Nat) (A : Option Addr) (hn : g.nodes.length = n) (hn9 : n ≤ 1000000000) (hA : ∀ k, A.map (·.block) = some k → k < n₀) (w : World)
    (_hn₀ : n₀ ≤ w.heap.size) (hBs : w.cell? ⟨Bs, 0, none⟩ = some (.slice A n cap)) (hB0 : Bs < w.heap.size) (hc : GdAt w A g) :
    SeqStopsK F m Try.prog 127 #[.pointer (some ⟨Bs, 0, none⟩)] (fun x : Ix n => #[Value.int .i64 (x.1 : Int), Nd.val (g.node x.1)]) (Kept n₀ Bs) (fun ys => ys = backs n n (Nat.le_refl _)) (fun pre => ∃ k, ∃ h : k ≤ n, pre = backs n k h) n w := fun l J Jx W hW _ _ hY h0 =>
  back1_in g F m h hro hm l Bs n₀ n cap A hn hn9 hA J Jx hY W ((hW.cell (p := ⟨Bs, 0, none⟩) hB0).trans hBs) (hc.ext hW) h0
end
end Go.Proofs.Ytopfhinnamhoiaa

/- Walk: flows. Its rows of ranges. -/
namespace Go.Proofs.Ytopfhinnamhoiaa
open Go.RowKit Go.Bs Go.Yd Go.Pl Go.Sort

/-- a range more, x times, as the machine reckons it -/
def plusW (a x b : Int) : Int := wrap64 (a + wrap64 (x * b))
theorem plus_w (a0 a1 b0 b1 x : Int) (w : World) :
    Calls Try.prog 103 #[.agg #[.int .i64 a0, .int .i64 a1], .agg #[.int .i64 b0, .int .i64 b1], .int .i64 x] w fun e w' => e = .returned (.agg #[.int .i64 (plusW a0 x b0), .int .i64 (plusW a1 x b1)]) ∧ Below w.heap.size w w' := by
  generalize hr0 : plusW a0 x b0 = r0
  generalize hr1 : plusW a1 x b1 = r1
  have Hr0 := Lib.hid (show wrap64 (a0 + wrap64 (x * b0)) = r0 from hr0)
  have Hr1 := Lib.hid (show wrap64 (a1 + wrap64 (x * b1)) = r1 from hr1)
  clear hr0 hr1
  go_enter Try.func103, Try.ntmps103
  go_wp2
  rw [Hr0.out, Hr1.out]
  refine bodyPost_ret (v := .agg #[.int .i64 r0, .int .i64 r1]) (by simp [results, Try.results103, go_sem]) rfl ?_
  exact ⟨rfl, ((Below.refl _ _).alloc (Nat.le_refl _) _ |>.alloc (by simp) _).alloc (by simp; omega) _⟩

/-- two rows as one, pair by pair -/
def il (lo hi : Nat → Int) (k : Nat) : Int := if k % 2 = 0 then lo (k / 2) else hi (k / 2)
theorem il_even (lo hi : Nat → Int) (i : Nat) : il lo hi (i * 2) = lo i := by
  unfold il; rw [if_pos (by omega), show i * 2 / 2 = i by omega]
theorem il_odd (lo hi : Nat → Int) (i : Nat) : il lo hi (i * 2 + 1) = hi i := by
  unfold il; rw [if_neg (by omega), show (i * 2 + 1) / 2 = i by omega]
theorem il_upd (lo hi : Nat → Int) (i : Nat) (a b : Int) : upd (upd (il lo hi) (i * 2) a) (i * 2 + 1) b = il (upd lo i a) (upd hi i b) := by
  funext k
  simp only [upd, il]
  by_cases h1 : k = i * 2 + 1
  · subst h1; rw [if_pos rfl, if_neg (by omega), if_pos (by omega)]
  · rw [if_neg h1]
    by_cases h2 : k = i * 2
    · subst h2; rw [if_pos rfl, if_pos (by omega), if_pos (by omega)]
    · rw [if_neg h2]
      split
      · rw [if_neg (by omega)]
      · rw [if_neg (by omega)]
theorem tab_set2 (n : Nat) (lo hi : Nat → Int) (i : Nat) (a b : Int) : ((tab n (il lo hi)).set (i * 2) a).set (i * 2 + 1) b = tab n (il (upd lo i a) (upd hi i b)) := by
  rw [tab_set, tab_set, il_upd]

theorem info73 : (Try.prog.info? 73).map (fun i => (i.zero, i.size, i.bytes)) = some (some (.agg #[.int .i64 0, .int .i64 0]), 2, 16) := by kernel_rfl
theorem mk67 (n : Nat) (hn : n ≤ 1000000) (w : World) :
    (Instr.makeSlice 67 (.int .i64 (n : Int)) (.int .i64 (n : Int))).run Try.prog w = .ok (.slice (some ⟨w.heap.size, 0, none⟩) n n) (w.alloc (.cells ((tab (2 * n) (il (fun _ => 0) fun _ => 0)).map (Value.int .i64)).toArray 73)) := by
  obtain ⟨i0, hi, hz0, hz1, hz2⟩ := info_parts info73
  have hr := run_make (P := Try.prog) w 67 73 i0 _ Try.underlying67 hi hz0 .i64 .i64 (n : Int) (n : Int) (by omega) (by omega) (by rw [hz2]; omega) (by omega)
  rw [hr, hz1]
  simp only [Int.toNat_natCast]
  refine congrArg (fun c => Result.ok (Value.slice (some ⟨w.heap.size, 0, none⟩) n n) (w.alloc (.cells c 73))) ?_
  apply Array.ext
  · simp [size_madeCells, tab_len]; omega
  · intro j h2 h3
    have hz : il (fun _ => 0) (fun _ => 0) j = 0 := by unfold il; split <;> rfl
    have hj : j % 2 = 0 ∨ j % 2 = 1 := by omega
    rcases hj with hj | hj <;> simp [madeCells, Value.cells, tab, hz, hj]

/-- What stands in memory while flows goes. -/
structure FlI (w W : World) (A : Option Addr) (n cap : Nat) (lim : Int) (Bf Bd : Nat) (lo hi dlo dhi : Nat → Int) : Prop where
  bl : Below w.heap.size w W
  b1 : Blk W w.heap.size 43 [.slice A n cap, .int .i64 lim]
  b2 : Blk W (w.heap.size + 1) 67 [.slice (some ⟨Bf, 0, none⟩) n n]
  F : IArr W Bf 73 (tab (2 * n) (il lo hi))
  D : IArr W Bd 73 (tab (2 * n) (il dlo dhi))
  lf : w.heap.size + 1 < Bf
  ld : w.heap.size + 1 < Bd
  nfd : Bf ≠ Bd
section
variable {w W W' : World} {A : Option Addr} {n cap : Nat} {lim : Int} {Bf Bd : Nat} {lo hi dlo dhi : Nat → Int}
theorem FlI.ext (h : FlI w W A n cap lim Bf Bd lo hi dlo dhi) (hb : Below W.heap.size W W') : FlI w W' A n cap lim Bf Bd lo hi dlo dhi :=
  ⟨ext_trans h.bl hb, h.b1.ext hb, h.b2.ext hb, h.F.ext hb, h.D.ext hb, h.lf, h.ld, h.nfd⟩
theorem FlI.setF (h : FlI w W A n cap lim Bf Bd lo hi dlo dhi) (i : Nat) (a b : Int) : FlI w ((W.setCell ⟨Bf, i * 2, none⟩ (.int .i64 a)).setCell ⟨Bf, i * 2 + 1, none⟩ (.int .i64 b)) A n cap lim Bf Bd (upd lo i a) (upd hi i b) dlo dhi := by
  have l1 := h.lf
  have l2 := h.ld
  have l3 := h.nfd
  refine ⟨(h.bl.setCell (by simp; omega) _).setCell (by simp; omega) _, (h.b1.other (by simp; omega) _).other (by simp; omega) _, (h.b2.other (by simp; omega) _).other (by simp; omega) _, ?_, (h.D.other (by simp; omega) _).other (by simp; omega) _, l1, l2, l3⟩
  have := (h.F.set (i * 2) a).set (i * 2 + 1) b
  rwa [tab_set2] at this
theorem FlI.setD (h : FlI w W A n cap lim Bf Bd lo hi dlo dhi) (i : Nat) (a b : Int) : FlI w ((W.setCell ⟨Bd, i * 2, none⟩ (.int .i64 a)).setCell ⟨Bd, i * 2 + 1, none⟩ (.int .i64 b)) A n cap lim Bf Bd lo hi (upd dlo i a) (upd dhi i b) := by
  have l1 := h.lf
  have l2 := h.ld
  have l3 := h.nfd
  refine ⟨(h.bl.setCell (by simp; omega) _).setCell (by simp; omega) _, (h.b1.other (by simp; omega) _).other (by simp; omega) _, (h.b2.other (by simp; omega) _).other (by simp; omega) _, (h.F.other (by simp; omega) _).other (by simp; omega) _, ?_, l1, l2, l3⟩
  have := (h.D.set (i * 2) a).set (i * 2 + 1) b
  rwa [tab_set2] at this
theorem FlI.x0 (h : FlI w W A n cap lim Bf Bd lo hi dlo dhi) : W.cell? ⟨w.heap.size, 0, none⟩ = some (.slice A n cap) := h.b1.cell rfl
theorem FlI.x2 (h : FlI w W A n cap lim Bf Bd lo hi dlo dhi) : W.cell? ⟨w.heap.size + 1, 0, none⟩ = some (.slice (some ⟨Bf, 0, none⟩) n n) := h.b2.cell rfl
theorem FlI.f0 (h : FlI w W A n cap lim Bf Bd lo hi dlo dhi) {i : Nat} (hi' : i < n) : W.cell? ⟨Bf, i * 2, none⟩ = some (.int .i64 (lo i)) := h.F.cell (by rw [tab_get _ (by omega), il_even])
theorem FlI.f1 (h : FlI w W A n cap lim Bf Bd lo hi dlo dhi) {i : Nat} (hi' : i < n) : W.cell? ⟨Bf, i * 2 + 1, none⟩ = some (.int .i64 (hi i)) := h.F.cell (by rw [tab_get _ (by omega), il_odd])
theorem FlI.d0 (h : FlI w W A n cap lim Bf Bd lo hi dlo dhi) {i : Nat} (hi' : i < n) : W.cell? ⟨Bd, i * 2, none⟩ = some (.int .i64 (dlo i)) := h.D.cell (by rw [tab_get _ (by omega), il_even])
theorem FlI.d1 (h : FlI w W A n cap lim Bf Bd lo hi dlo dhi) {i : Nat} (hi' : i < n) : W.cell? ⟨Bd, i * 2 + 1, none⟩ = some (.int .i64 (dhi i)) := h.D.cell (by rw [tab_get _ (by omega), il_odd])
end
theorem Blk.kept {W W' : World} {B T : Nat} {cs : List Value} {row : Option Nat} (h : Blk W B T cs) (hg : W.grownBy W' row) (hr : ∀ r, row = some r → ∃ o : Obj, W.heap[r]? = some o ∧ o.isCells = false) : Blk W' B T cs :=
  (hg.block B h.lt (fun e => by
    obtain ⟨o, h1, h2⟩ := hr B e.symm
    rw [show W.heap[B]? = _ from h] at h1
    cases h1; cases h2)).trans h

/-- one node's flow is reckoned and handed on -/
def stepW (g : Gd) (l : Nat → Int) (f : Nat → Int) (i : Nat) : Nat → Int :=
  if 0 < i then upd (upd f i (plusW (f i) 1 (l i))) (g.par i) (plusW (upd f i (plusW (f i) 1 (l i)) (g.par i)) 1 (upd f i (plusW (f i) 1 (l i)) i)) else upd f i (plusW (f i) 1 (l i))
def flW (g : Gd) (l : Nat → Int) {n : Nat} (pre : List (Ix n)) : Nat → Int := pre.foldl (fun f x => stepW g l f x.1) fun _ => 0
theorem flW_snoc (g : Gd) (l : Nat → Int) {n : Nat} (pre : List (Ix n)) (x : Ix n) : flW g l (pre ++ [x]) = stepW g l (flW g l pre) x.1 := by simp [flW]
theorem plusW_eq {a x b : Int} (h1 : -9000000000000000000 ≤ x * b ∧ x * b ≤ 9000000000000000000) (h2 : -9000000000000000000 ≤ a + x * b ∧ a + x * b ≤ 9000000000000000000) : plusW a x b = a + x * b := by
  unfold plusW
  rw [Go.IntWalk.wrap64_in (x * b) (by omega), Go.IntWalk.wrap64_in _ (by omega)]
theorem flW_eq {g : Gd} (h : g.ok) {l : Nat → Int} (hl : ∀ i, i < g.nodes.length → 0 ≤ l i ∧ l i ≤ 1000000) : ∀ (k : Nat) (hk : k ≤ g.nodes.length), flW g l (backs g.nodes.length k hk) = g.fl l k
  | 0, _ => rfl
  | k + 1, hk => by
    have hlen := h.len
    show flW g l (backs g.nodes.length k _ ++ [⟨g.nodes.length - 1 - k, _⟩]) = _
    rw [flW_snoc, flW_eq h hl k (by omega)]
    have hb := (g.fl_bd h hl k (by omega)).1
    have hb2 := (g.fl_bd h hl (k + 1) hk).1
    have hli := hl (g.nodes.length - 1 - k) (by omega)
    have hlk : (k : Int) ≤ 30 := by omega
    show stepW g l (g.fl l k) (g.nodes.length - 1 - k) = _
    have e0 : g.fl l (k + 1) = if 0 < g.nodes.length - 1 - k then upd (upd (g.fl l k) (g.nodes.length - 1 - k) (g.fl l k (g.nodes.length - 1 - k) + l (g.nodes.length - 1 - k))) (g.par (g.nodes.length - 1 - k)) ((upd (g.fl l k) (g.nodes.length - 1 - k) (g.fl l k (g.nodes.length - 1 - k) + l (g.nodes.length - 1 - k))) (g.par (g.nodes.length - 1 - k)) + (upd (g.fl l k) (g.nodes.length - 1 - k) (g.fl l k (g.nodes.length - 1 - k) + l (g.nodes.length - 1 - k))) (g.nodes.length - 1 - k)) else upd (g.fl l k) (g.nodes.length - 1 - k) (g.fl l k (g.nodes.length - 1 - k) + l (g.nodes.length - 1 - k)) := rfl
    rw [e0]
    clear e0 hb2
    generalize g.fl l k = f at *
    generalize g.nodes.length - 1 - k = i at *
    have hfi := hb i
    have e1 : plusW (f i) 1 (l i) = f i + l i := by rw [plusW_eq (by omega) (by omega)]; omega
    unfold stepW
    rw [e1, upd_self]
    split
    · have hfp : 0 ≤ (upd f i (f i + l i)) (g.par i) ∧ (upd f i (f i + l i)) (g.par i) ≤ 100000000 := by
        unfold upd
        split
        · omega
        · have := hb (g.par i); omega
      rw [plusW_eq (by omega) (by omega)]
      congr 1
      omega
    · rfl
end Go.Proofs.Ytopfhinnamhoiaa

/- Walk: flows. -/
namespace Go.Proofs.Ytopfhinnamhoiaa
open Go.RowKit Go.Bs Go.Yd Go.Pl Go.Sort

/-- What flows hands back: the rows of the flows and the drops. -/
def FlPost (g : Gd) (w : World) (e : Ending) (w' : World) : Prop :=
  ∃ Bf Bd : Nat, e = .returned (.tuple #[.slice (some ⟨Bf, 0, none⟩) g.nodes.length g.nodes.length, .slice (some ⟨Bd, 0, none⟩) g.nodes.length g.nodes.length]) ∧
    Below w.heap.size w w' ∧ IArr w' Bf 73 (tab (2 * g.nodes.length) (il (g.flow g.lo) (g.flow g.hi))) ∧ IArr w' Bd 73 (tab (2 * g.nodes.length) (il (g.drop (g.flow g.lo)) (g.drop (g.flow g.hi)))) ∧ w.heap.size ≤ Bf ∧ w.heap.size ≤ Bd ∧ Bf ≠ Bd

attribute [local go_sem] Oper.semAt_some
set_option maxRecDepth 100000 in
set_option maxHeartbeats 4000000 in
theorem flows_any (g : Gd) (A : Option Addr) (n cap : Nat) (w : World) (hok : g.ok) (hn : g.nodes.length = n) (hcap : n ≤ cap) (hA : ∀ k, A.map (·.block) = some k → k < w.heap.size) (hd : GdAt w A g) :
    Calls Try.prog 76 #[.agg #[.slice A n cap, .int .i64 g.limit]] w (FlPost g w) := by
  have hn30 := hok.len
  have hmk := mk67 n (by omega)
  refine (callsIn_wide (n := 20)).1 (callsIn_of_wp_marks Try.func76 rfl trivial ?_)
  simp only [Try.ntmps76, List.size_toArray, List.length_cons, List.length_nil, Nat.reduceAdd, Nat.reduceSub, Array.replicate_succ, Array.replicate_zero, List.push_toArray, List.append_toArray, List.nil_append, List.cons_append]
  refine wpIn_wide.2 ?_
  go_upto_region 1 with fail
  have hb0 : Below w.heap.size w ((w.alloc (.cells #[.slice A n cap, .int .i64 g.limit] 43)).alloc (.cells #[.slice none 0 0] 67)) := ((Below.refl _ _).alloc (Nat.le_refl _) _).alloc (by simp) _
  have h1 : Blk ((w.alloc (.cells #[.slice A n cap, .int .i64 g.limit] 43)).alloc (.cells #[.slice none 0 0] 67)) w.heap.size 43 [.slice A n cap, .int .i64 g.limit] := (Blk.new w 43 [.slice A n cap, .int .i64 g.limit]).alloc _
  have h2 : Blk ((w.alloc (.cells #[.slice A n cap, .int .i64 g.limit] 43)).alloc (.cells #[.slice none 0 0] 67)) (w.heap.size + 1) 67 [.slice none 0 0] := by
    have := Blk.new (w.alloc (.cells #[.slice A n cap, .int .i64 g.limit] 43)) 67 [.slice none 0 0]
    simpa using this
  have hsz : ((w.alloc (.cells #[.slice A n cap, .int .i64 g.limit] 43)).alloc (.cells #[.slice none 0 0] 67)).heap.size = w.heap.size + 2 := by simp
  generalize (w.alloc (.cells #[.slice A n cap, .int .i64 g.limit] 43)).alloc (.cells #[.slice none 0 0] 67) = W0 at *
  go_cut [3] from 8 (fun v W => ∃ Bf Bd : Nat, v = .slice (some ⟨Bd, 0, none⟩) n n ∧ FlI w W A n cap g.limit Bf Bd (fun _ => 0) (fun _ => 0) (fun _ => 0) (fun _ => 0))
  case first =>
    refine Dr.wp_region_plan 10 [w.heap.size + 1] (.q [0, 1, 2, 4, 5, 6] (.e2 3 (.e2 7 (.e1 8 (.q [9] .done)) 8 (.e1 7 (.q [9] .done))) 7 (.e1 3 (.e1 8 (.q [9] .done))))) (by kernel_rfl) (by kernel_rfl) ?_
    have hb1 := hb0.drew
    have h3 := h1.drew
    have h4 := h2.drew
    have hsz2 : W0.drew.heap.size = w.heap.size + 2 := hsz
    clear hb0 h1 h2 hsz
    generalize World.drew _ = W at *
    have q0 := Dr.cls_cell (M := [w.heap.size + 1]) (h3.cell (i := 0) rfl) (by simp)
    refine Dr.plan_q (l := [_, _, _, _, _, _]) rfl (fun K hK => ?_)
    iterate 6 (go_big_quiet_step (fail))
    refine wpQuiet_nil (hK _ ?_); clear hK K
    clear q0
    have Hsz := Lib.hid hsz2
    have m2 : w.heap.size + 1 < W.heap.size := by omega
    clear hsz2
    have n1 := Blk.new W 73 ((tab (2 * n) (il (fun _ => 0) fun _ => 0)).map (Value.int .i64))
    have n2 := Blk.new (W.alloc (.cells ((tab (2 * n) (il (fun _ => 0) fun _ => 0)).map (Value.int .i64)).toArray 73)) 73 ((tab (2 * n) (il (fun _ => 0) fun _ => 0)).map (Value.int .i64))
    have n3 : (W.alloc (.cells ((tab (2 * n) (il (fun _ => 0) fun _ => 0)).map (Value.int .i64)).toArray 73)).heap.size = W.heap.size + 1 := by simp
    have hbA : Below w.heap.size w ((W.alloc (.cells ((tab (2 * n) (il (fun _ => 0) fun _ => 0)).map (Value.int .i64)).toArray 73)).alloc (.cells ((tab (2 * n) (il (fun _ => 0) fun _ => 0)).map (Value.int .i64)).toArray 73)) := ext_trans (ext_trans hb1 (ext_alloc _ _)) (ext_alloc _ _)
    have hA1 := (h3.alloc (.cells ((tab (2 * n) (il (fun _ => 0) fun _ => 0)).map (Value.int .i64)).toArray 73)).alloc (.cells ((tab (2 * n) (il (fun _ => 0) fun _ => 0)).map (Value.int .i64)).toArray 73)
    have hA2 := (h4.alloc (.cells ((tab (2 * n) (il (fun _ => 0) fun _ => 0)).map (Value.int .i64)).toArray 73)).alloc (.cells ((tab (2 * n) (il (fun _ => 0) fun _ => 0)).map (Value.int .i64)).toArray 73)
    have nA1 := n1.alloc (.cells ((tab (2 * n) (il (fun _ => 0) fun _ => 0)).map (Value.int .i64)).toArray 73)
    have hbB : Below w.heap.size w (W.alloc (.cells ((tab (2 * n) (il (fun _ => 0) fun _ => 0)).map (Value.int .i64)).toArray 73)) := ext_trans hb1 (ext_alloc _ _)
    have hB1 := h3.alloc (.cells ((tab (2 * n) (il (fun _ => 0) fun _ => 0)).map (Value.int .i64)).toArray 73)
    have hB2 := h4.alloc (.cells ((tab (2 * n) (il (fun _ => 0) fun _ => 0)).map (Value.int .i64)).toArray 73)
    refine Dr.plan_e2 ?_ ?_
    · refine Dr.plan_e rfl (by rfl) (fun K hK => ?_)
      go_wp2_with fail
      refine hK _ _ (.of (ext_alloc _ _)) ?_; clear hK K
      refine Dr.plan_e2 ?_ ?_
      · refine Dr.plan_e rfl (by rfl) (fun K hK => ?_)
        go_wp2_with fail
        refine hK _ _ (.of (ext_alloc _ _)) ?_; clear hK K
        rw [n3] at n2
        clear n1 n3 hbB hB1 hB2
        generalize (W.alloc (.cells ((tab (2 * n) (il (fun _ => 0) fun _ => 0)).map (Value.int .i64)).toArray 73)).alloc (.cells ((tab (2 * n) (il (fun _ => 0) fun _ => 0)).map (Value.int .i64)).toArray 73) = W2 at *
        have f2 := hA2.free 0
        have c2 := hA2.cell (i := 0) rfl
        refine Dr.plan_e rfl (by rfl) (fun K hK => ?_)
        go_wp2_with fail
        refine hK _ _ (Dr.Bel.store (by simp) _) ?_; clear hK K
        refine Dr.plan_q (l := [_]) rfl (fun K hK => ?_)
        iterate 1 (go_big_quiet_step (fail))
        refine wpQuiet_nil (hK _ ?_); clear hK K
        refine Dr.plan_end rfl ?_
        go_wp2
        go_meet
        case rel => exact ⟨W.heap.size, W.heap.size + 1, rfl, hbA.setCell (by simp) _, hA1.other (by simp) _, hA2.set 0 _, Blk.other nA1 (by simp; omega) _, Blk.other n2 (by simp; omega) _, m2, by omega, by omega⟩
      · rw [n3] at n2
        have hbA' := hbA
        clear hbA hA1 hA2 nA1
        generalize hW1 : W.alloc (.cells ((tab (2 * n) (il (fun _ => 0) fun _ => 0)).map (Value.int .i64)).toArray 73) = W1 at *
        have f2 := hB2.free 0
        have c2 := hB2.cell (i := 0) rfl
        refine Dr.plan_e rfl (by rfl) (fun K hK => ?_)
        go_wp2_with fail
        refine hK _ _ (Dr.Bel.store (by simp) _) ?_; clear hK K
        have k1 := hB1.other (p := ⟨w.heap.size + 1, 0, none⟩) (by simp) (.slice (some ⟨W.heap.size, 0, none⟩) n n)
        have k2 := hB2.set 0 (.slice (some ⟨W.heap.size, 0, none⟩) n n)
        have k3 := Blk.other (p := ⟨w.heap.size + 1, 0, none⟩) n1 (by simp; omega) (.slice (some ⟨W.heap.size, 0, none⟩) n n)
        have k4 := hbB.setCell (p := ⟨w.heap.size + 1, 0, none⟩) (by simp) (.slice (some ⟨W.heap.size, 0, none⟩) n n)
        have k5 : (W1.setCell ⟨w.heap.size + 1, 0, none⟩ (.slice (some ⟨W.heap.size, 0, none⟩) n n)).heap.size = W.heap.size + 1 := by rw [← n3]; simp
        clear hB1 hB2 n1 hbB hbA' n2 f2 c2 n3 hW1
        generalize W1.setCell ⟨w.heap.size + 1, 0, none⟩ (.slice (some ⟨W.heap.size, 0, none⟩) n n) = W2 at *
        have k6 := Blk.new W2 73 ((tab (2 * n) (il (fun _ => 0) fun _ => 0)).map (Value.int .i64))
        rw [k5] at k6
        have K5 := Lib.hid k5
        clear k5
        refine Dr.plan_e rfl (by rfl) (fun K hK => ?_)
        go_wp2_with fail
        refine hK _ _ (.of (ext_alloc _ _)) ?_; clear hK K
        refine Dr.plan_q (l := [_]) rfl (fun K hK => ?_)
        iterate 1 (go_big_quiet_step (fail))
        refine wpQuiet_nil (hK _ ?_); clear hK K
        refine Dr.plan_end rfl ?_
        go_wp2
        go_meet
        case rel => exact ⟨W.heap.size, W2.heap.size, rfl, k4.alloc (by have := K5.out; omega) _, k1.alloc _, k2.alloc _, Blk.alloc k3 _, by rw [K5.out]; exact k6, m2, by rw [K5.out]; omega, by rw [K5.out]; omega⟩
    · refine Dr.plan_e rfl (by rfl) (fun K hK => ?_)
      go_wp2_with fail
      refine hK _ _ (.of (ext_alloc _ _)) ?_; clear hK K
      refine Dr.plan_e rfl (by rfl) (fun K hK => ?_)
      go_wp2_with fail
      refine hK _ _ (.of (ext_alloc _ _)) ?_; clear hK K
      rw [n3] at n2
      clear n1 n3 hbB hB1 hB2
      generalize (W.alloc (.cells ((tab (2 * n) (il (fun _ => 0) fun _ => 0)).map (Value.int .i64)).toArray 73)).alloc (.cells ((tab (2 * n) (il (fun _ => 0) fun _ => 0)).map (Value.int .i64)).toArray 73) = W2 at *
      have f2 := hA2.free 0
      have c2 := hA2.cell (i := 0) rfl
      refine Dr.plan_e rfl (by rfl) (fun K hK => ?_)
      go_wp2_with fail
      refine hK _ _ (Dr.Bel.store (by simp) _) ?_; clear hK K
      refine Dr.plan_q (l := [_]) rfl (fun K hK => ?_)
      iterate 1 (go_big_quiet_step (fail))
      refine wpQuiet_nil (hK _ ?_); clear hK K
      refine Dr.plan_end rfl ?_
      go_wp2
      go_meet
      case rel => exact ⟨W.heap.size + 1, W.heap.size, rfl, hbA.setCell (by simp) _, hA1.other (by simp) _, hA2.set 0 _, Blk.other n2 (by simp; omega) _, Blk.other nA1 (by simp; omega) _, by omega, m2, by omega⟩
  case rest =>
    obtain ⟨Bf, Bd, rfl, hI⟩ := hcut
    clear hb0 h1 h2 hsz hmk
    have x0 := hI.x0
    go_wp2_with fail
    refine (back_any A n cap _).mono ?_; rintro e w1 ⟨rfl, rfl⟩
    go_wp2
    have hI1 := hI.ext (ext_alloc wc (.cells #[.slice A n cap] 41))
    have hbx := Blk.new wc 41 [.slice A n cap]
    have hsW : (wc.alloc (.cells #[.slice A n cap] 41)).heap.size = wc.heap.size + 1 := by simp
    have lw := hI.bl.size
    have lF := hI.F.lt
    have lD := hI.D.lt
    have lf := hI.lf
    have ld := hI.ld
    clear hI x0
    change Blk (wc.alloc (.cells #[.slice A n cap] 41)) wc.heap.size 41 [.slice A n cap] at hbx
    generalize wc.alloc (.cells #[.slice A n cap] 41) = W1 at *
    generalize ha : Act.mk _ _ = a0
    refine wpIn_wide.1 (wpIn_rangeFunc_ownH (F := Fence.wide) (n := 20) rfl (by omega) (gf := 127) (lb := #[.pointer (some ⟨wc.heap.size, 0, none⟩)]) (by rw [← ha]; rfl) trivial (enters_of Try.func127 (by kernel_rfl) rfl)
      (back_stops g Fence.wide 19 trivial rfl (by omega) wc.heap.size w.heap.size n cap A hn (by omega) hA W1 (by omega) (hbx.cell rfl) (by omega) (hd.ext hI1.bl))
      (fun h k => h.trans k) (Kept.put (by omega) (by omega)) (Below.refl _ _) (fun _ => rfl)
      (fun pre W => FlI w W A n cap g.limit Bf Bd (flW g g.lo pre) (flW g g.hi pre) (fun _ => 0) (fun _ => 0) ∧ W1.heap.size ≤ W.heap.size)
      (fun _ _ _ => False) ?own (fun _ _ _ _ _ hs _ _ => hs) ⟨hI1, Nat.le_refl _⟩
      (fun x a' W => ∃ Bx, wc.heap.size < Bx ∧ Blk W Bx 136 (Nd.enc (g.node x.1)) ∧ a' = { tmps := (((a0.tmps.setIfInBounds 19 (.int .i64 (x.1 : Int))).setIfInBounds 20 (Nd.val (g.node x.1))).setIfInBounds 4 (.int .i64 (x.1 : Int))).setIfInBounds 5 (.pointer (some ⟨Bx, 0, none⟩)), defers := [] })
      (fun x a' _ X Y row hs hg hr => by obtain ⟨Bx, h1, h2, h3⟩ := hs; exact ⟨Bx, h1, Blk.kept h2 hg (fun r e => (hr r e).2), h3⟩)
      ?assign ?body ?done ?stop)
    case own =>
      rintro pre X Y row ⟨hs, hsz⟩ hg hr
      have hr' := fun r e => (hr r e).2
      exact ⟨⟨hs.bl.grown hg hs.bl.size (fun k e => by have := (hr k e).1; omega), Blk.kept hs.b1 hg hr', Blk.kept hs.b2 hg hr', Blk.kept hs.F hg hr', Blk.kept hs.D hg hr', hs.lf, hs.ld, hs.nfd⟩, Nat.le_trans hsz hg.size⟩
    case assign =>
      subst ha
      rintro l pre x W K ⟨hi, hsz⟩ hK
      dsimp only [Nd.val]
      gi_wp2
      have hR := (Rnd.refl W1.heap.size w.heap.size wc.heap.size W).ext (ext_alloc W (.cells #[.int .i64 (g.node x.1).parent, .int .i64 (g.node x.1).load.lo, .int .i64 (g.node x.1).load.hi, .int .i64 (g.node x.1).fuse, .int .i64 (g.node x.1).sag] 136)) (by omega) (by omega)
      exact hK _ _ hR.kf hR.kp ⟨hi.ext (ext_alloc _ _), by simp; omega⟩ ⟨W.heap.size, by omega, Blk.new W 136 (Nd.enc (g.node x.1)), rfl⟩
    case body =>
      subst ha
      rintro l pre x a' W hl ⟨r, hr⟩ ⟨hI, hsz⟩ ⟨Bx, hBx, hnd, rfl⟩ hlt
      simp only [List.setIfInBounds_toArray, List.set_cons_succ, List.set_cons_zero]
      have hR := Rnd.refl W1.heap.size w.heap.size wc.heap.size W
      have hx := x.2
      have hx0 : (0 : Int) ≤ (x.1 : Int) := by omega
      have hxn : (x.1 : Int) < (n : Int) := by omega
      gi_upto_region 5 with fail
      have hIe := hI.ext (ext_drew W)
      have hRe := hR.ext (ext_drew W) (by omega) (by omega)
      have hnde := hnd.ext (ext_drew W)
      refine Dr.wpIn_region_plan rfl ?q 10 [] (.q [0, 1, 2, 3, 4, 5, 6, 7] (.e1 8 (.q [9] .done))) (by kernel_rfl) (by kernel_rfl) (by kernel_rfl) ?_
      case q => rintro ⟨_, _, h⟩; exact h
      clear hI hR hnd
      generalize W.drew = W2 at *
      have q2 := Dr.cell0 hIe.x2
      have q3 := Dr.cell0 (hIe.f0 hx)
      have q4 := Dr.cell0 (hIe.f1 hx)
      have q5 := Dr.cell0 (hnde.cell (i := 1) rfl)
      have q6 := Dr.cell0 (hnde.cell (i := 2) rfl)
      refine Dr.plan_q (l := [_, _, _, _, _, _, _, _]) rfl (fun K hK => ?_)
      iterate 8 (go_big_quiet_step (fail))
      refine wpQuiet_nil (hK _ ?_); clear hK K
      refine Dr.plan_e rfl (by rfl) (fun K hK => ?_)
      go_wp2_with fail
      refine (plus_w _ _ _ _ _ _).mono ?_; rintro e w1 ⟨rfl, hb1⟩
      refine hK _ _ (.of hb1) ?_; clear hK K
      have hI3 := hIe.ext hb1
      have hR3 := hRe.ext hb1 (by omega) (by omega)
      have hnd3 := hnde.ext hb1
      clear hIe hRe hnde q2 q3 q4 q5 q6
      refine Dr.plan_q (l := [_]) rfl (fun K hK => ?_)
      iterate 1 (go_big_quiet_step (fail))
      refine wpQuiet_nil (hK _ ?_); clear hK K
      refine Dr.plan_done (tl := [_]) rfl ?_
      have e1 := hI3.f0 hx
      have e2 := hI3.f1 hx
      have e3 := hI3.F.free (x.1 * 2)
      have e4 := hI3.F.free (x.1 * 2 + 1)
      go_wp2
      have hI4 := hI3.setF x.1 (plusW (flW g g.lo pre x.1) 1 (g.node x.1).load.lo) (plusW (flW g g.hi pre x.1) 1 (g.node x.1).load.hi)
      have hR4 := (hR3.setCell (p := ⟨Bf, x.1 * 2, none⟩) (by simp; omega) (by simp; omega) (.int .i64 (plusW (flW g g.lo pre x.1) 1 (g.node x.1).load.lo))).setCell (p := ⟨Bf, x.1 * 2 + 1, none⟩) (by simp; omega) (by simp; omega) (.int .i64 (plusW (flW g g.hi pre x.1) 1 (g.node x.1).load.hi))
      have hnd4 := (hnd3.other (p := ⟨Bf, x.1 * 2, none⟩) (by simp; omega) (.int .i64 (plusW (flW g g.lo pre x.1) 1 (g.node x.1).load.lo))).other (p := ⟨Bf, x.1 * 2 + 1, none⟩) (by simp; omega) (.int .i64 (plusW (flW g g.hi pre x.1) 1 (g.node x.1).load.hi))
      have hs1 := flW_snoc g g.lo pre x
      have hs2 := flW_snoc g g.hi pre x
      unfold stepW at hs1 hs2
      have hglo : g.lo x.1 = (g.node x.1).load.lo := rfl
      have hghi : g.hi x.1 = (g.node x.1).load.hi := rfl
      rw [hglo] at hs1
      rw [hghi] at hs2
      have Hs1 := Lib.hid hs1
      have Hs2 := Lib.hid hs2
      clear hI3 hR3 hnd3 e1 e2 e3 e4 hb1 hs1 hs2 hglo hghi
      generalize (w1.setCell ⟨Bf, x.1 * 2, none⟩ (.int .i64 (plusW (flW g g.lo pre x.1) 1 (g.node x.1).load.lo))).setCell ⟨Bf, x.1 * 2 + 1, none⟩ (.int .i64 (plusW (flW g g.hi pre x.1) 1 (g.node x.1).load.hi)) = W4 at *
      generalize upd (flW g g.lo pre) x.1 (plusW (flW g g.lo pre x.1) 1 (g.node x.1).load.lo) = F at *
      generalize upd (flW g g.hi pre) x.1 (plusW (flW g g.hi pre x.1) 1 (g.node x.1).load.hi) = G at *
      by_cases hpos : 0 < x.1
      · have hpos' : (0 : Int) < (x.1 : Int) := by omega
        have hpar := Gd.par_lt hok hpos (by omega)
        have Hpar := Lib.hid hpar.2
        have hp1 := hpar.1
        have hpn : g.par x.1 < n := by omega
        clear hpar
        rw [if_pos hpos] at Hs1 Hs2
        clear hpos
        gi_upto_region 7 with fail
        have hIe := hI4.ext (ext_drew W4)
        have hRe := hR4.ext (ext_drew W4) (by omega) (by omega)
        have hnde := hnd4.ext (ext_drew W4)
        refine Dr.wpIn_region_plan rfl ?q 14 [] (.q [0, 1, 2, 3, 4, 5, 6, 7, 8, 9, 10, 11] (.e1 12 (.q [13] .done))) (by kernel_rfl) (by kernel_rfl) (by kernel_rfl) ?_
        case q => rintro ⟨_, _, h⟩; exact h
        clear hI4 hR4 hnd4
        generalize W4.drew = W5 at *
        have hc := hnde.cell (i := 0) rfl
        rw [Hpar.out] at hc
        have q2 := Dr.cell0 hIe.x2
        have q3 := Dr.cell0 (hIe.f0 hx)
        have q4 := Dr.cell0 (hIe.f1 hx)
        have q5 := Dr.cell0 hc
        have q6 := Dr.cell0 (hIe.f0 hpn)
        have q7 := Dr.cell0 (hIe.f1 hpn)
        have hp0 : (0 : Int) ≤ (g.par x.1 : Int) := by omega
        have hpn' : (g.par x.1 : Int) < (n : Int) := by omega
        clear hc
        refine Dr.plan_q (l := [_, _, _, _, _, _, _, _, _, _, _, _]) rfl (fun K hK => ?_)
        iterate 12 (go_big_quiet_step (fail))
        refine wpQuiet_nil (hK _ ?_); clear hK K
        refine Dr.plan_e rfl (by rfl) (fun K hK => ?_)
        go_wp2_with fail
        refine (plus_w _ _ _ _ _ _).mono ?_; rintro e w2 ⟨rfl, hb1⟩
        refine hK _ _ (.of hb1) ?_; clear hK K
        have hI6 := hIe.ext hb1
        have hR6 := hRe.ext hb1 (by omega) (by omega)
        clear hIe hRe hnde q2 q3 q4 q5 q6 q7
        refine Dr.plan_q (l := [_]) rfl (fun K hK => ?_)
        iterate 1 (go_big_quiet_step (fail))
        refine wpQuiet_nil (hK _ ?_); clear hK K
        refine Dr.plan_done (tl := [_]) rfl ?_
        have e1 := hI6.f0 hpn
        have e2 := hI6.f1 hpn
        have e3 := hI6.F.free (g.par x.1 * 2)
        have e4 := hI6.F.free (g.par x.1 * 2 + 1)
        go_wp2
        have hR7 := (hR6.setCell (p := ⟨Bf, g.par x.1 * 2, none⟩) (by simp; omega) (by simp; omega) (.int .i64 (plusW (F (g.par x.1)) 1 (F x.1)))).setCell (p := ⟨Bf, g.par x.1 * 2 + 1, none⟩) (by simp; omega) (by simp; omega) (.int .i64 (plusW (G (g.par x.1)) 1 (G x.1)))
        refine ⟨hR7.kf, hR7.kp, ?_, by have := hR7.sz; omega⟩
        rw [Hs1.out, Hs2.out]
        exact hI6.setF (g.par x.1) (plusW (F (g.par x.1)) 1 (F x.1)) (plusW (G (g.par x.1)) 1 (G x.1))
      · have hpos' : ¬ (0 : Int) < (x.1 : Int) := by omega
        have hz : (x.1 : Int) ≤ 0 := by omega
        rw [if_neg hpos] at Hs1 Hs2
        clear hpos
        gi_wp2
        refine ⟨by rw [← hsW]; exact hR4.kf, hR4.kp, ?_, by have := hR4.sz; omega⟩
        rw [Hs1.out, Hs2.out]
        exact hI4
    case done =>
      subst ha
      rintro D ys W hD rfl ⟨hI, hsz⟩ hK
      have hlo : ∀ i, i < g.nodes.length → 0 ≤ g.lo i ∧ g.lo i ≤ 1000000 := fun i hi => by
        have := (hok.nodes i hi).load
        unfold Gd.lo; omega
      have hhi : ∀ i, i < g.nodes.length → 0 ≤ g.hi i ∧ g.hi i ≤ 1000000 := fun i hi => by
        have := (hok.nodes i hi).load
        unfold Gd.hi; omega
      have e1 : flW g g.lo (backs n n (Nat.le_refl n)) = g.flow g.lo := by subst hn; exact flW_eq hok hlo _ _
      have e2 : flW g g.hi (backs n n (Nat.le_refl n)) = g.flow g.hi := by subst hn; exact flW_eq hok hhi _ _
      rw [e1, e2] at hI
      have hfb1 : ∀ i, 0 ≤ g.flow g.lo i ∧ g.flow g.lo i ≤ 30000000 := fun i => by
        have := (g.fl_bd hok hlo _ (Nat.le_refl _)).1 i
        unfold Gd.flow; omega
      have hfb2 : ∀ i, 0 ≤ g.flow g.hi i ∧ g.flow g.hi i ≤ 30000000 := fun i => by
        have := (g.fl_bd hok hhi _ (Nat.le_refl _)).1 i
        unfold Gd.flow; omega
      have hdb1 := fun m hm => g.dr_bd hok hfb1 m hm
      have hdb2 := fun m hm => g.dr_bd hok hfb2 m hm
      have hF : g.dr (g.flow g.lo) n = g.drop (g.flow g.lo) := by rw [← hn]; rfl
      have hG : g.dr (g.flow g.hi) n = g.drop (g.flow g.hi) := by rw [← hn]; rfl
      have HF := Lib.hid hF
      have HG := Lib.hid hG
      have HB := Lib.hid (And.intro (And.intro hfb1 hfb2) (And.intro hdb1 hdb2))
      have HW := Lib.hid hsW
      have HN := Lib.hid hn
      clear e1 e2 hlo hhi hI1 hbx hfb1 hfb2 hdb1 hdb2 hF hG hsW
      generalize hFF : g.flow g.lo = F at *
      generalize hGG : g.flow g.hi = G at *
      have HFF := Lib.hid hFF
      have HGG := Lib.hid hGG
      clear hFF hGG
      have x0 := hI.x0
      go_wp2
      go_loopw [50] (fun x wr => ∃ k : Nat, x = .int .i64 k ∧ k ≤ n ∧ FlI w wr A n cap g.limit Bf Bd F G (g.dr F k) (g.dr G k) ∧ wr.heap[D]? = some (.deferred (some []))) (fun x _ => (n - intOf x).toNat)
      case atStart => exact ⟨0, rfl, by omega, hI, hK⟩
      case round =>
        clear hI hK x0
        obtain ⟨k, rfl, hk, hI, hK⟩ := hrel
        by_cases hlt : k < n
        · have hlt' : (k : Int) < n := by omega
          have hk0 : (0 : Int) ≤ k := by omega
          obtain ⟨b, off, e, -, c0, c1, c2, c3, c4⟩ := (hd.ext hI.bl).node (k := k) (by omega)
          have m0 := cell_lt c0
          subst e
          go_upto_region 11 with fail
          have hI2 := hI.ext (ext_alloc wr (.cells #[.int .i64 (g.node k).parent, .int .i64 (g.node k).load.lo, .int .i64 (g.node k).load.hi, .int .i64 (g.node k).fuse, .int .i64 (g.node k).sag] 136))
          have hK2 : (wr.alloc (.cells #[.int .i64 (g.node k).parent, .int .i64 (g.node k).load.lo, .int .i64 (g.node k).load.hi, .int .i64 (g.node k).fuse, .int .i64 (g.node k).sag] 136)).heap[D]? = some (.deferred (some [])) := ((ext_alloc wr (.cells #[.int .i64 (g.node k).parent, .int .i64 (g.node k).load.lo, .int .i64 (g.node k).load.hi, .int .i64 (g.node k).fuse, .int .i64 (g.node k).sag] 136)).block D (Array.getElem?_eq_some_iff.1 hK).1).trans hK
          have hnd : Blk (wr.alloc (.cells #[.int .i64 (g.node k).parent, .int .i64 (g.node k).load.lo, .int .i64 (g.node k).load.hi, .int .i64 (g.node k).fuse, .int .i64 (g.node k).sag] 136)) wr.heap.size 136 [.int .i64 (g.node k).parent, .int .i64 (g.node k).load.lo, .int .i64 (g.node k).load.hi, .int .i64 (g.node k).fuse, .int .i64 (g.node k).sag] := Blk.new wr 136 [.int .i64 (g.node k).parent, .int .i64 (g.node k).load.lo, .int .i64 (g.node k).load.hi, .int .i64 (g.node k).fuse, .int .i64 (g.node k).sag]
          clear hI hK c0 c1 c2 c3 c4 m0
          generalize wr.alloc (.cells #[.int .i64 (g.node k).parent, .int .i64 (g.node k).load.lo, .int .i64 (g.node k).load.hi, .int .i64 (g.node k).fuse, .int .i64 (g.node k).sag] 136) = W2 at *
          have hDb : Bd ≠ D := by have := HW.out; omega
          have hdr1 : g.dr F (k + 1) = if 0 < k then upd (g.dr F k) k (g.dr F k (g.par k) + (g.node k).sag * F k) else g.dr F k := rfl
          have hdr2 : g.dr G (k + 1) = if 0 < k then upd (g.dr G k) k (g.dr G k (g.par k) + (g.node k).sag * G k) else g.dr G k := rfl
          have Hd1 := Lib.hid hdr1
          have Hd2 := Lib.hid hdr2
          clear hdr1 hdr2
          by_cases hpos : 0 < k
          · have hpos' : (0 : Int) < (k : Int) := by omega
            have hpar := Gd.par_lt hok hpos (by omega)
            have Hpar := Lib.hid hpar.2
            have hp1 := hpar.1
            have hpn : g.par k < n := by omega
            have hsag := ((hok.nodes k (by omega)).inn hpos).2.2
            clear hpar
            rw [if_pos hpos] at Hd1 Hd2
            clear hpos
            go_upto_region 12 with fail
            refine Dr.wp_region_plan 15 [] (.q [0, 1, 2, 3, 4, 5, 6, 7, 8, 9, 10, 11, 12] (.e1 13 (.q [14] .done))) (by kernel_rfl) (by kernel_rfl) ?_
            have hIe := hI2.ext (ext_drew W2)
            have hKe : W2.drew.heap[D]? = some (.deferred (some [])) := hK2
            have hnde := hnd.ext (ext_drew W2)
            clear hI2 hK2 hnd
            generalize W2.drew = W3 at *
            have hc := hnde.cell (i := 0) rfl
            rw [Hpar.out] at hc
            have q0 := Dr.cell0 hIe.x2
            have q1 := Dr.cell0 hc
            have q2 := Dr.cell0 (hnde.cell (i := 4) rfl)
            have q3 := Dr.cell0 (hIe.f0 hlt)
            have q4 := Dr.cell0 (hIe.f1 hlt)
            have q5 := Dr.cell0 (hIe.d0 hpn)
            have q6 := Dr.cell0 (hIe.d1 hpn)
            have hp0 : (0 : Int) ≤ (g.par k : Int) := by omega
            have hpn' : (g.par k : Int) < (n : Int) := by omega
            clear hc
            refine Dr.plan_q (l := [_, _, _, _, _, _, _, _, _, _, _, _, _]) rfl (fun K hK => ?_)
            iterate 13 (go_big_quiet_step (fail))
            refine wpQuiet_nil (hK _ ?_); clear hK K
            refine Dr.plan_e rfl (by rfl) (fun K hK => ?_)
            go_wp2_with fail
            refine (plus_any _ _ _ _ _ _ ?_ ?_ hsag).mono ?_
            · have h1 := HB.out.2.1 k (by omega) (g.par k)
              have h2 := HB.out.2.2 k (by omega) (g.par k)
              omega
            · have h1 := HB.out.1.1 k
              have h2 := HB.out.1.2 k
              omega
            rintro e w2 ⟨rfl, hb1⟩
            refine hK _ _ (.of hb1) ?_; clear hK K
            have hI6 := hIe.ext hb1
            have hK6 : w2.heap[D]? = some (.deferred (some [])) := (hb1.block D (Array.getElem?_eq_some_iff.1 hKe).1).trans hKe
            clear hIe hKe hnde q0 q1 q2 q3 q4 q5 q6
            refine Dr.plan_q (l := [_]) rfl (fun K hK => ?_)
            iterate 1 (go_big_quiet_step (fail))
            refine wpQuiet_nil (hK _ ?_); clear hK K
            refine Dr.plan_done (tl := [_]) rfl ?_
            have e1 := hI6.d0 hlt
            have e2 := hI6.d1 hlt
            have e3 := hI6.D.free (k * 2)
            have e4 := hI6.D.free (k * 2 + 1)
            go_wp2
            have hI7 := hI6.setD k (g.dr F k (g.par k) + (g.node k).sag * F k) (g.dr G k (g.par k) + (g.node k).sag * G k)
            have hK7 : ((w2.setCell ⟨Bd, k * 2, none⟩ (.int .i64 (g.dr F k (g.par k) + (g.node k).sag * F k))).setCell ⟨Bd, k * 2 + 1, none⟩ (.int .i64 (g.dr G k (g.par k) + (g.node k).sag * G k))).heap[D]? = some (.deferred (some [])) :=
              (Below.heap_setCell _ _ _ D (by simp; omega)).trans ((Below.heap_setCell _ _ _ D (by simp; omega)).trans hK6)
            clear hI6 hK6 e1 e2 e3 e4
            go_roundw
            case rel => exact ⟨k + 1, by go_num, by omega, by rw [Hd1.out, Hd2.out]; exact hI7, hK7⟩
            case measure => simp [intOf]; omega
          · have hpos' : ¬ (0 : Int) < (k : Int) := by omega
            have hz : (k : Int) ≤ 0 := by omega
            rw [if_neg hpos] at Hd1 Hd2
            clear hpos
            go_wp2
            go_roundw
            case rel => exact ⟨k + 1, by go_num, by omega, by rw [Hd1.out, Hd2.out]; exact hI2, hK2⟩
            case measure => simp [intOf]; omega
        · obtain rfl : k = n := by omega
          rw [HF.out, HG.out] at hI
          have x2 := hI.x2
          have z2 := hI.b2.free 0
          go_wp2
          have hDb : w.heap.size + 1 ≠ D := by have := HW.out; omega
          have hK8 : (wr.setCell ⟨w.heap.size + 1, 0, none⟩ (.slice (some ⟨Bf, 0, none⟩) k k)).heap[D]? = some (.deferred (some [])) := (Below.heap_setCell _ _ _ D (by simp; omega)).trans hK
          have y1 := hI.b2.set 0 (.slice (some ⟨Bf, 0, none⟩) k k)
          have y2 := Blk.other (p := ⟨w.heap.size + 1, 0, none⟩) hI.F (by simp; omega) (.slice (some ⟨Bf, 0, none⟩) k k)
          have y3 := Blk.other (p := ⟨w.heap.size + 1, 0, none⟩) hI.D (by simp; omega) (.slice (some ⟨Bf, 0, none⟩) k k)
          have y4 := hI.bl.setCell (p := ⟨w.heap.size + 1, 0, none⟩) (by simp) (.slice (some ⟨Bf, 0, none⟩) k k)
          generalize wr.setCell ⟨w.heap.size + 1, 0, none⟩ (.slice (some ⟨Bf, 0, none⟩) k k) = W9 at *
          refine ⟨by simp, .inl ⟨_, _, rfl, run_takeDeferred hK8, ?_⟩⟩
          have hrow : ∀ r, some D = some r → ∃ o : Obj, W9.heap[r]? = some o ∧ o.isCells = false := fun r e => by cases e; exact ⟨_, hK8, rfl⟩
          have p1 := (Blk.kept y1 (grownBy_putObj' W9 D (.deferred none)) hrow).cell (i := 0) rfl
          have p2 := Blk.kept y2 (grownBy_putObj' W9 D (.deferred none)) hrow
          have p3 := Blk.kept y3 (grownBy_putObj' W9 D (.deferred none)) hrow
          have p4 : Below w.heap.size w (W9.putObj D (.deferred none)) := y4.trans (belowK_b (w := w) (Nat.le_refl _) W9 D _ _ (by have := HW.out; omega) hK8 rfl rfl)
          refine ⟨.tuple #[.slice (some ⟨Bf, 0, none⟩) k k, .slice (some ⟨Bd, 0, none⟩) k k], by simp [results, Try.results76, go_sem, p1], Bf, Bd, by rw [HN.out], p4, ?_, ?_, by omega, by omega, hI.nfd⟩
          · rw [HN.out, HFF.out, HGG.out]; exact p2
          · rw [HN.out, HFF.out, HGG.out]; exact p3
    case stop =>
      rintro D c pre W _ _ h _
      exact h.elim
end Go.Proofs.Ytopfhinnamhoiaa

/- Walk: above. -/
namespace Go.Proofs.Ytopfhinnamhoiaa
open Go.RowKit Go.Bs Go.Yd Go.Pl Go.Sort

/-- the numbers below k at which f is above its limit -/
def overN (lim f : Nat → Int) (k : Nat) : List Nat := (List.range k).filter fun i => decide (lim i < f i)
theorem overN_succ (lim f : Nat → Int) (k : Nat) : overN lim f (k + 1) = if lim k < f k then overN lim f k ++ [k] else overN lim f k := by
  unfold overN
  rw [List.range_succ, List.filter_append]
  split <;> rename_i h <;> simp [h]
theorem overN_len (lim f : Nat → Int) (k : Nat) : (overN lim f k).length ≤ k := by
  unfold overN
  have := List.length_filter_le (fun i => decide (lim i < f i)) (List.range k)
  simpa using this
theorem natsI_len (l : List Nat) : (natsI l).length = l.length := by simp [natsI]
theorem natsI_snoc (l : List Nat) (k : Nat) : natsI l ++ [(k : Int)] = natsI (l ++ [k]) := by simp [natsI]

def TwoPost (w : World) (R : List Int × List Int) (e : Ending) (w' : World) : Prop :=
  ∃ v u, e = .returned (.tuple #[v, u]) ∧ FreshL w w' 1 encI v R.1 ∧ FreshL w w' 1 encI u R.2 ∧ Below w.heap.size w w'

theorem own_ne {w : World} {α : Type} {base : Nat} {e : TypeId} {sz : Nat} {enc : α → List Value} {v u : Value} {l : List α} {g : Nat} {n c : Nat} (hne : v.ownBlock = none ∨ u.ownBlock = none ∨ v.ownBlock ≠ u.ownBlock) (hu : OwnL w base e sz enc u l)
    (hat : v.ownBlock = some g ∨ g = w.heap.size) : (u.ownBlock = none ∨ u.ownBlock ≠ v.ownBlock) ∧ ((Value.slice (some ⟨g, 0, none⟩) n c).ownBlock = none ∨ u.ownBlock = none ∨ (Value.slice (some ⟨g, 0, none⟩) n c).ownBlock ≠ u.ownBlock) := by
  constructor
  · rcases hne with h | h | h
    · cases hu : u.ownBlock
      · exact .inl rfl
      · exact .inr (by rw [h]; simp)
    · exact .inl h
    · exact .inr (Ne.symm h)
  · cases hx : u.ownBlock with
    | none => exact .inr (.inl rfl)
    | some b =>
      refine .inr (.inr ?_)
      have hb := (hu.lt hx).2
      show some g ≠ some b
      rcases hat with h | h
      · rcases hne with h1 | h1 | h1
        · rw [h1] at h; cases h
        · rw [h1] at hx; cases hx
        · rw [← hx, ← h]; exact h1
      · intro e; cases e; omega

theorem app1_i {ops : Array Oper} {rest : List Oper} {o : Oper} {a : Act} {Q : Exit → Act → World → Prop} {w : World} (hgd : o.guard = none) (s x : Operand)
    (ho : o.op = .call { callee := .builtin .append, args := #[s, x], argTypes := #[24, 24] }) (base : Nat) (v : Value) (l : List Nat) (hs : a.eval s = v) (hown : OwnL w base 3 1 encI v (natsI l))
    (g : Nat) (hx : a.eval x = .slice (some ⟨g, 0, none⟩) 1 1) (y : Nat) (hc : w.cell? ⟨g, 0, none⟩ = some (.int .i64 (y : Int))) (hlen : l.length ≤ 1000000) (hbase : base ≤ w.heap.size)
    (h : ∀ g' cap w', OwnL w' base 3 1 encI (.slice (some ⟨g', 0, none⟩) (l.length + 1) cap) (natsI (l ++ [y])) → Below base w w' → w.grownBy w' v.ownBlock → (v.ownBlock = some g' ∨ g' = w.heap.size) → wpList Try.prog ops Q rest (a.put o.dst (.slice (some ⟨g', 0, none⟩) (l.length + 1) cap)) w') :
    wpList Try.prog ops Q (o :: rest) a w := by
  refine app1 encI 24 3 1 8 et24 (by decide) (by decide) encI_len encI_one hgd s x ho base v (natsI l) hs hown g hx (y : Int) (encI_cell hc) (by rw [natsI_len]; exact hlen) hbase ?_
  intro g' cap w' h1 h2 h3 h4
  rw [natsI_snoc, natsI_len] at h1
  rw [natsI_len]
  exact h g' cap w' h1 h2 h3 h4

set_option maxRecDepth 100000 in
set_option maxHeartbeats 2000000 in
theorem above_any (f : Nat) (fs : Array Value) (lim lo hi : Nat → Int) (Bf n : Nat) (w : World) (eg : Enters Try.prog f) (hn : n ≤ 1000) (hd : IArr w Bf 73 (tab (2 * n) (il lo hi)))
    (hp : ∀ (w' : World) (i : Nat), i < n → Below w.heap.size w w' → Calls Try.prog f (fs.push (.int .i64 (i : Int))) w' fun e w'' => e = .returned (.int .i64 (lim i)) ∧ Below w'.heap.size w' w'') :
    Calls Try.prog 77 #[.slice (some ⟨Bf, 0, none⟩) n n, .func (.func f) fs #[]] w (TwoPost w (natsI (overN lim hi n), natsI (overN lim lo n))) := by
  unfold Enters at eg
  go_enter Try.func77, Try.ntmps77
  go_wp2
  go_loopw [4, 5, 10] (fun v u x wr => ∃ (k : Nat), x = .int .i64 k ∧ k ≤ n ∧ OwnL wr w.heap.size 3 1 encI v (natsI (overN lim hi k)) ∧ OwnL wr w.heap.size 3 1 encI u (natsI (overN lim lo k)) ∧ Hid (v.ownBlock = none ∨ u.ownBlock = none ∨ v.ownBlock ≠ u.ownBlock) ∧ Below w.heap.size w wr) (fun _ _ x _ => n - (intOf x).toNat)
  case atStart => exact ⟨0, rfl, by omega, OwnL.nil, OwnL.nil, Lib.hid (.inl rfl), Below.refl _ _⟩
  case round =>
    obtain ⟨k, rfl, hk, hv, hu, Hne, hb⟩ := hrel
    by_cases hlt : k < n
    · have hlt' : (k : Int) < n := by omega
      have hk0 : (0 : Int) ≤ k := by omega
      have d0 : wr.cell? ⟨Bf, k * 2, none⟩ = some (.int .i64 (lo k)) := (hd.ext hb).cell (by rw [tab_get _ (by omega), il_even])
      have d1 : wr.cell? ⟨Bf, k * 2 + 1, none⟩ = some (.int .i64 (hi k)) := (hd.ext hb).cell (by rw [tab_get _ (by omega), il_odd])
      have m0 := cell_lt d0
      go_upto_region 4 with fail
      have hv2 := hv.alloc (.cells #[.int .i64 (lo k), .int .i64 (hi k)] 73)
      have hu2 := hu.alloc (.cells #[.int .i64 (lo k), .int .i64 (hi k)] 73)
      have hb2 := ext_trans hb (ext_alloc wr (.cells #[.int .i64 (lo k), .int .i64 (hi k)] 73))
      have hr2 : Blk (wr.alloc (.cells #[.int .i64 (lo k), .int .i64 (hi k)] 73)) wr.heap.size 73 [.int .i64 (lo k), .int .i64 (hi k)] := Blk.new wr 73 [.int .i64 (lo k), .int .i64 (hi k)]
      have hlv := fun b hb => (hv.lt (k := b) hb).2
      have hlu := fun b hb => (hu.lt (k := b) hb).2
      clear hv hu hb d0 d1 m0
      generalize wr.alloc (.cells #[.int .i64 (lo k), .int .i64 (hi k)] 73) = W at *
      refine Dr.wp_region_plan 6 [] (.q [0, 1, 2, 3] (.e1 4 (.q [5] .done))) (by kernel_rfl) (by kernel_rfl) ?_
      have hv3 := hv2.ext (ext_drew W)
      have hu3 := hu2.ext (ext_drew W)
      have hb3 := hb2.drew
      have hr3 := hr2.ext (ext_drew W)
      clear hv2 hu2 hb2 hr2
      generalize W.drew = W2 at *
      have q0 := Dr.cell0 (hr3.cell (i := 1) rfl)
      refine Dr.plan_q (l := [_, _, _, _]) rfl (fun K hK => ?_)
      iterate 4 (go_big_quiet_step (fail))
      refine wpQuiet_nil (hK _ ?_); clear hK K
      refine Dr.plan_e rfl (by rfl) (fun K hK => ?_)
      go_wp2_with fail
      refine (hp _ k hlt hb3).mono ?_; rintro e w1 ⟨rfl, hb1⟩
      refine hK _ _ (.of hb1) ?_; clear hK K
      have hv4 := hv3.ext hb1
      have hu4 := hu3.ext hb1
      have hr4 := hr3.ext hb1
      have hb4 := ext_trans hb3 hb1
      clear hv3 hu3 hb3 hr3 q0 hb1
      refine Dr.plan_q (l := [_]) rfl (fun K hK => ?_)
      iterate 1 (go_big_quiet_step (fail))
      refine wpQuiet_nil (hK _ ?_); clear hK K
      refine Dr.plan_end rfl ?_
      go_upto_if 20 with fail
      have hs1 := overN_succ lim hi k
      have hl1 := overN_len lim hi k
      go_cut [4, 20] (fun v' _ W' => OwnL W' w.heap.size 3 1 encI v' (natsI (overN lim hi (k + 1))) ∧ OwnL W' w.heap.size 3 1 encI u5 (natsI (overN lim lo k)) ∧ Hid (v'.ownBlock = none ∨ u5.ownBlock = none ∨ v'.ownBlock ≠ u5.ownBlock) ∧ Blk W' wr.heap.size 73 [.int .i64 (lo k), .int .i64 (hi k)] ∧ Below w.heap.size w W')
      case first =>
        by_cases hq : lim k < hi k
        · rw [if_pos hq] at hs1
          have Hs1 := Lib.hid hs1
          clear hs1
          go_wp2_with (at_builtin; refine app1_i rfl _ _ rfl w.heap.size _ (overN lim hi k) rfl (hv4.alloc _) w1.heap.size rfl k (by simp) (by omega) (by simp; have := hb4.size; omega) ?_; intro g2 cap2 w2 hown hb5 hgr hat)
          have hx := own_ne (n := (overN lim hi k).length + 1) (c := cap2) Hne.out (hu4.alloc (.cells #[.int .i64 (k : Int)] 3)) hat
          have hr5 := hr4.alloc (.cells #[.int .i64 (k : Int)] 3)
          go_meet
          case rel => exact ⟨by rw [Hs1.out]; exact hown, (hu4.alloc _).kept hgr hx.1, Lib.hid hx.2, (hgr.block _ hr5.lt (fun e => by have := hlv _ e.symm; omega)).trans hr5, (hb4.alloc (by have := hb4.size; omega) _).trans hb5⟩
        · rw [if_neg hq] at hs1
          have Hs1 := Lib.hid hs1
          have hq' : hi k ≤ lim k := by omega
          clear hs1
          go_wp2
          go_meet
          case rel => exact ⟨by rw [Hs1.out]; exact hv4, hu4, Hne, hr4, hb4⟩
      case rest =>
        obtain ⟨hv5, hu5, Hne5, hr5, hb5⟩ := hcut
        clear hv4 hu4 hb4 hr4 hs1 hl1 Hne hlv
        go_upto_region 6 with fail
        refine Dr.wp_region_plan 6 [] (.q [0, 1, 2, 3] (.e1 4 (.q [5] .done))) (by kernel_rfl) (by kernel_rfl) ?_
        have hv3 := hv5.ext (ext_drew _)
        have hu3 := hu5.ext (ext_drew _)
        have hb3 := hb5.drew
        have hr3 := hr5.ext (ext_drew _)
        clear hv5 hu5 hb5 hr5
        generalize World.drew _ = W6 at *
        have q0 := Dr.cell0 (hr3.cell (i := 0) rfl)
        refine Dr.plan_q (l := [_, _, _, _]) rfl (fun K hK => ?_)
        iterate 4 (go_big_quiet_step (fail))
        refine wpQuiet_nil (hK _ ?_); clear hK K
        refine Dr.plan_e rfl (by rfl) (fun K hK => ?_)
        go_wp2_with fail
        refine (hp _ k hlt hb3).mono ?_; rintro e w3 ⟨rfl, hb1⟩
        refine hK _ _ (.of hb1) ?_; clear hK K
        have hv4 := hv3.ext hb1
        have hu4 := hu3.ext hb1
        have hb4 := ext_trans hb3 hb1
        clear hv3 hu3 hb3 hr3 q0 hb1
        refine Dr.plan_q (l := [_]) rfl (fun K hK => ?_)
        iterate 1 (go_big_quiet_step (fail))
        refine wpQuiet_nil (hK _ ?_); clear hK K
        refine Dr.plan_end rfl ?_
        have hs1 := overN_succ lim lo k
        have hl1 := overN_len lim lo k
        by_cases hq : lim k < lo k
        · rw [if_pos hq] at hs1
          have Hs1 := Lib.hid hs1
          clear hs1
          go_wp2_with (at_builtin; refine app1_i rfl _ _ rfl w.heap.size _ (overN lim lo k) rfl (hu4.alloc _) w3.heap.size rfl k (by simp) (by omega) (by simp; have := hb4.size; omega) ?_; intro g2 cap2 w4 hown hb5 hgr hat)
          have hne6 : u5.ownBlock = none ∨ u4.ownBlock = none ∨ u5.ownBlock ≠ u4.ownBlock := by
            rcases Hne5.out with h | h | h
            · exact .inr (.inl h)
            · exact .inl h
            · exact .inr (.inr (Ne.symm h))
          have hx := own_ne (n := (overN lim lo k).length + 1) (c := cap2) hne6 (hv4.alloc (.cells #[.int .i64 (k : Int)] 3)) hat
          have hy : u4.ownBlock = none ∨ (Value.slice (some ⟨g2, 0, none⟩) ((overN lim lo k).length + 1) cap2).ownBlock = none ∨ u4.ownBlock ≠ (Value.slice (some ⟨g2, 0, none⟩) ((overN lim lo k).length + 1) cap2).ownBlock := by
            rcases hx.2 with h | h | h
            · exact .inr (.inl h)
            · exact .inl h
            · exact .inr (.inr (Ne.symm h))
          refine ⟨⟨k + 1, by go_num, by omega, (hv4.alloc _).kept hgr hx.1, by rw [Hs1.out]; exact hown, Lib.hid hy, (hb4.alloc (by have := hb4.size; omega) _).trans hb5⟩, ?_⟩
          simp [intOf]; omega
        · rw [if_neg hq] at hs1
          have Hs1 := Lib.hid hs1
          have hq' : lo k ≤ lim k := by omega
          clear hs1
          go_wp2
          go_roundw
          case rel => exact ⟨k + 1, by go_num, by omega, hv4, by rw [Hs1.out]; exact hu4, Hne5, hb4⟩
          case measure => simp [intOf]; omega
    · obtain rfl : k = n := by omega
      go_wp2
      go_ret2
      exact ⟨_, _, rfl, FreshL.of_own hv encI_len (Nat.le_refl _), FreshL.of_own hu encI_len (Nat.le_refl _), hb⟩
end Go.Proofs.Ytopfhinnamhoiaa

/- Walk: Flows, Blown, Low. -/
namespace Go.Proofs.Ytopfhinnamhoiaa
open Go.RowKit Go.Bs Go.Yd Go.Pl Go.Sort

def rngs (lo hi : Nat → Int) (n : Nat) : List Rng := (List.range n).map fun i => ⟨lo i, hi i⟩
theorem rngs_len (lo hi : Nat → Int) (n : Nat) : (rngs lo hi n).length = n := by simp [rngs]
theorem cells2 {w : World} {B T n : Nat} {lo hi : Nat → Int} (h : IArr w B T (tab (2 * n) (il lo hi))) : Cells w (some ⟨B, 0, none⟩) 2 Rng.enc (rngs lo hi n) := fun i x hx => ⟨B, 0, rfl, fun j y hj => by
  have hi' : i < n := by have := (List.getElem?_eq_some_iff.1 hx).1; rwa [rngs_len] at this
  have hx2 : x = ⟨lo i, hi i⟩ := by simpa [rngs, hi'] using hx.symm
  subst hx2
  rcases j with _ | _ | j
  · simp only [Rng.enc, List.getElem?_cons_zero, Option.some.injEq] at hj
    subst hj
    simpa using h.cell (i := i * 2) (by rw [tab_get _ (by omega), il_even])
  · simp only [Rng.enc, List.getElem?_cons_succ, List.getElem?_cons_zero, Option.some.injEq] at hj
    subst hj
    simpa using h.cell (i := i * 2 + 1) (by rw [tab_get _ (by omega), il_odd])
  · simp [Rng.enc] at hj⟩
theorem Cells.blk {w : World} {A : Option Addr} {sz : Nat} {α : Type} {enc : α → List Value} {l : List α} (h : Cells w A sz enc l) (hs : ∀ x, 0 < (enc x).length) (hn : 0 < l.length) : ∀ k, A.map (·.block) = some k → k < w.heap.size := by
  obtain ⟨b, off, rfl, hc⟩ := h.at hn
  intro k hk
  simp at hk
  subst hk
  have h0 := hs l[0]
  exact cell_lt (hc 0 _ (List.getElem?_eq_getElem h0))

/-- flows by the spec's rows -/
def Gd.flo (g : Gd) : Nat → Int := g.flow g.lo
def Gd.fhi (g : Gd) : Nat → Int := g.flow g.hi
def Gd.dlo (g : Gd) : Nat → Int := g.drop (g.flow g.lo)
def Gd.dhi (g : Gd) : Nat → Int := g.drop (g.flow g.hi)
def flowsR (g : Gd) : List Rng × List Rng × Int := if g.okB then (rngs (Gd.flo g) (Gd.fhi g) g.nodes.length, rngs (Gd.dlo g) (Gd.dhi g) g.nodes.length, 0) else ([], [], 1)
def FlowsOut (R : List Rng × List Rng × Int) (w : World) (e : Ending) (w' : World) : Prop :=
  ∃ v x, e = .returned (.tuple #[v, x, .int .i64 R.2.2]) ∧ FreshL w w' 2 Rng.enc v R.1 ∧ FreshL w w' 2 Rng.enc x R.2.1 ∧ Below w.heap.size w w'

set_option maxRecDepth 100000 in
set_option maxHeartbeats 1000000 in
theorem Flows_any (g : Gd) (A : Option Addr) (n cap : Nat) (w : World) (hn : g.nodes.length = n) (hm : n ≤ 9223372036854775807) (hcap : n ≤ cap) (hd : GdAt w A g) :
    Calls Try.prog 36 #[.agg #[.slice A n cap, .int .i64 g.limit]] w (FlowsOut (flowsR g) w) := by
  have hb0 := ext_alloc w (.cells #[.slice A n cap, .int .i64 g.limit] 43)
  have HV := Lib.hid (gvalid_any g A n cap _ hn hm (hd.ext hb0))
  cases hv : g.okB
  · have hR : flowsR g = ([], [], 1) := by unfold flowsR; rw [hv]; rfl
    have HR := Lib.hid hR
    rw [hv] at HV
    clear hv hR hn hm hcap hd
    go_enter Try.func36, Try.ntmps36
    go_wp2_with fail
    refine HV.out.mono ?_; rintro e w1 ⟨rfl, hb1⟩
    go_wp2
    rw [HR.out]
    go_ret3
    exact ⟨_, _, rfl, FreshL.nil _ _ _ _, FreshL.nil _ _ _ _, ext_trans hb0 hb1⟩
  · have hok := (Gd.okB_iff g).1 hv
    have hlen := hok.len
    have hR : flowsR g = (rngs (Gd.flo g) (Gd.fhi g) n, rngs (Gd.dlo g) (Gd.dhi g) n, 0) := by unfold flowsR; rw [hv, hn]; rfl
    have HR := Lib.hid hR
    rw [hv] at HV
    clear hv hR
    go_enter Try.func36, Try.ntmps36
    go_wp2_with fail
    refine HV.out.mono ?_; rintro e w1 ⟨rfl, hb1⟩
    have hb2 := ext_trans hb0 hb1
    have hx0 : w1.cell? ⟨w.heap.size, 0, none⟩ = some (.slice A n cap) := cell_ext (by simp) hb1
    have hx1 : w1.cell? ⟨w.heap.size, 1, none⟩ = some (.int .i64 g.limit) := cell_ext (by simp) hb1
    have hd2 := hd.ext hb2
    clear hb0 hb1
    go_wp2_with fail
    refine (flows_any g A n cap _ hok hn hcap (Cells.blk hd2 (fun _ => by simp [Nd.enc]) (by omega)) hd2).mono ?_
    rintro e w2 ⟨Bf, Bd, rfl, hb3, hF, hD, h1, h2, h3⟩
    rw [hn] at hF hD
    have lF : Bf < w2.heap.size := Blk.lt hF
    have lD : Bd < w2.heap.size := Blk.lt hD
    have := hb2.size
    have hmx : n ≤ maxLen := by unfold maxLen; omega
    have HN := Lib.hid hn
    clear hn
    go_wp2
    rw [HR.out]
    go_ret3
    rw [HN.out]
    refine ⟨_, _, rfl, ⟨some ⟨Bf, 0, none⟩, n, by simp [rngs_len], by simp [rngs_len], hmx, cells2 hF, ?_⟩, ⟨some ⟨Bd, 0, none⟩, n, by simp [rngs_len], by simp [rngs_len], hmx, cells2 hD, ?_⟩, ext_trans hb2 hb3⟩
    · intro k hk; simp at hk; omega
    · intro k hk; simp at hk; omega
def ThreePost (R : List Int × List Int × Int) (w : World) (e : Ending) (w' : World) : Prop :=
  ∃ v x, e = .returned (.tuple #[v, x, .int .i64 R.2.2]) ∧ FreshL w w' 1 encI v R.1 ∧ FreshL w w' 1 encI x R.2.1 ∧ Below w.heap.size w w'

def blownR (g : Gd) : List Int × List Int × Int := if g.okB then (natsI (overN (Gd.fuseOf g) (Gd.fhi g) g.nodes.length), natsI (overN (Gd.fuseOf g) (Gd.flo g) g.nodes.length), 0) else ([], [], 1)
set_option maxRecDepth 100000 in
set_option maxHeartbeats 1000000 in
theorem Blown_any (g : Gd) (A : Option Addr) (n cap : Nat) (w : World) (hn : g.nodes.length = n) (hm : n ≤ 9223372036854775807) (hcap : n ≤ cap) (hd : GdAt w A g) :
    Calls Try.prog 37 #[.agg #[.slice A n cap, .int .i64 g.limit]] w (ThreePost (blownR g) w) := by
  have hb0 := ext_alloc w (.cells #[.slice A n cap, .int .i64 g.limit] 43)
  have HV := Lib.hid (gvalid_any g A n cap _ hn hm (hd.ext hb0))
  cases hv : g.okB
  · have hR : blownR g = ([], [], 1) := by unfold blownR; rw [hv]; rfl
    have HR := Lib.hid hR
    rw [hv] at HV
    clear hv hR hn hm hcap hd
    go_enter Try.func37, Try.ntmps37
    go_wp2_with fail
    refine HV.out.mono ?_; rintro e w1 ⟨rfl, hb1⟩
    go_wp2
    rw [HR.out]
    go_ret3
    exact ⟨_, _, rfl, FreshL.nil _ _ _ _, FreshL.nil _ _ _ _, ext_trans hb0 hb1⟩
  · have hok := (Gd.okB_iff g).1 hv
    have hlen := hok.len
    have hR : blownR g = (natsI (overN (Gd.fuseOf g) (Gd.fhi g) n), natsI (overN (Gd.fuseOf g) (Gd.flo g) n), 0) := by unfold blownR; rw [hv, hn]; rfl
    have HR := Lib.hid hR
    rw [hv] at HV
    clear hv hR
    go_enter Try.func37, Try.ntmps37
    go_wp2_with fail
    refine HV.out.mono ?_; rintro e w1 ⟨rfl, hb1⟩
    have hb2 := ext_trans hb0 hb1
    have hx0 : w1.cell? ⟨w.heap.size, 0, none⟩ = some (.slice A n cap) := cell_ext (by simp) hb1
    have hx1 : w1.cell? ⟨w.heap.size, 1, none⟩ = some (.int .i64 g.limit) := cell_ext (by simp) hb1
    have hd2 := hd.ext hb2
    clear hb0 hb1
    go_wp2_with fail
    refine (flows_any g A n cap _ hok hn hcap (Cells.blk hd2 (fun _ => by simp [Nd.enc]) (by omega)) hd2).mono ?_
    rintro e w2 ⟨Bf, Bd, rfl, hb3, hF, hD, h1, h2, h3⟩
    rw [hn] at hF hD
    have hy0 := cell_ext hx0 hb3
    have hy1 := cell_ext hx1 hb3
    have hb4 := ext_trans hb2 hb3
    have hd4 := hd.ext hb4
    have HN := Lib.hid hn
    rw [hn]
    clear hn hx0 hx1
    go_wp2_with fail
    refine (above_any 78 #[.agg #[.slice A n cap, .int .i64 g.limit]] (Gd.fuseOf g) (Gd.flo g) (Gd.fhi g) Bf n w2 (enters_of Try.func78 (by kernel_rfl) rfl) (by have := HN.out; omega) hF ?_).mono ?_
    · intro w' i hi hb
      exact fuse_any g A n cap i w' (by have := HN.out; omega) HN.out (hd4.ext hb)
    rintro e w3 ⟨v, u, rfl, hv, hu, hb5⟩
    go_wp2
    rw [HR.out]
    go_ret3
    exact ⟨_, _, rfl, hv.older hb4.size, hu.older hb4.size, ext_trans hb4 hb5⟩

def lowR (g : Gd) : List Int × List Int × Int := if g.okB then (natsI (overN (fun _ => g.limit) (Gd.dhi g) g.nodes.length), natsI (overN (fun _ => g.limit) (Gd.dlo g) g.nodes.length), 0) else ([], [], 1)
set_option maxRecDepth 100000 in
set_option maxHeartbeats 1000000 in
theorem Low_any (g : Gd) (A : Option Addr) (n cap : Nat) (w : World) (hn : g.nodes.length = n) (hm : n ≤ 9223372036854775807) (hcap : n ≤ cap) (hd : GdAt w A g) :
    Calls Try.prog 38 #[.agg #[.slice A n cap, .int .i64 g.limit]] w (ThreePost (lowR g) w) := by
  have hb0 := ext_alloc w (.cells #[.slice A n cap, .int .i64 g.limit] 43)
  have HV := Lib.hid (gvalid_any g A n cap _ hn hm (hd.ext hb0))
  cases hv : g.okB
  · have hR : lowR g = ([], [], 1) := by unfold lowR; rw [hv]; rfl
    have HR := Lib.hid hR
    rw [hv] at HV
    clear hv hR hn hm hcap hd
    go_enter Try.func38, Try.ntmps38
    go_wp2_with fail
    refine HV.out.mono ?_; rintro e w1 ⟨rfl, hb1⟩
    go_wp2
    rw [HR.out]
    go_ret3
    exact ⟨_, _, rfl, FreshL.nil _ _ _ _, FreshL.nil _ _ _ _, ext_trans hb0 hb1⟩
  · have hok := (Gd.okB_iff g).1 hv
    have hlen := hok.len
    have hR : lowR g = (natsI (overN (fun _ => g.limit) (Gd.dhi g) n), natsI (overN (fun _ => g.limit) (Gd.dlo g) n), 0) := by unfold lowR; rw [hv, hn]; rfl
    have HR := Lib.hid hR
    rw [hv] at HV
    clear hv hR
    go_enter Try.func38, Try.ntmps38
    go_wp2_with fail
    refine HV.out.mono ?_; rintro e w1 ⟨rfl, hb1⟩
    have hb2 := ext_trans hb0 hb1
    have hx0 : w1.cell? ⟨w.heap.size, 0, none⟩ = some (.slice A n cap) := cell_ext (by simp) hb1
    have hx1 : w1.cell? ⟨w.heap.size, 1, none⟩ = some (.int .i64 g.limit) := cell_ext (by simp) hb1
    have hd2 := hd.ext hb2
    clear hb0 hb1
    go_wp2_with fail
    refine (flows_any g A n cap _ hok hn hcap (Cells.blk hd2 (fun _ => by simp [Nd.enc]) (by omega)) hd2).mono ?_
    rintro e w2 ⟨Bf, Bd, rfl, hb3, hF, hD, h1, h2, h3⟩
    rw [hn] at hF hD
    have hy0 := cell_ext hx0 hb3
    have hy1 := cell_ext hx1 hb3
    have hb4 := ext_trans hb2 hb3
    have hd4 := hd.ext hb4
    have HN := Lib.hid hn
    rw [hn]
    clear hn hx0 hx1
    go_wp2_with fail
    refine (above_any 79 #[.agg #[.slice A n cap, .int .i64 g.limit]] (fun _ => g.limit) (Gd.dlo g) (Gd.dhi g) Bd n w2 (enters_of Try.func79 (by kernel_rfl) rfl) (by have := HN.out; omega) hD ?_).mono ?_
    · intro w' i hi hb
      exact limit_any g A n cap (i : Int) w'
    rintro e w3 ⟨v, u, rfl, hv, hu, hb5⟩
    go_wp2
    rw [HR.out]
    go_ret3
    exact ⟨_, _, rfl, hv.older hb4.size, hu.older hb4.size, ext_trans hb4 hb5⟩
end Go.Proofs.Ytopfhinnamhoiaa

/- The spare load of a node, as plain data. -/
namespace Go.Proofs.Ytopfhinnamhoiaa
open Go.Yd Go.Pl

/-- the nodes from i up to the root, the root left out -/
def Gd.up (g : Gd) : Nat → Nat → List Nat
  | 0, _ => []
  | k + 1, i => if i = 0 then [] else i :: Gd.up g k (g.par i)
def mst1 (g : Gd) (m : Int) (l : List Nat) : Int := l.foldl (fun m i => if Gd.fuseOf g i - Gd.fhi g i < m then Gd.fuseOf g i - Gd.fhi g i else m) m
/-- by how much a watt more raises each drop, when the first k nodes are reckoned; on: the nodes that it flows through -/
def Gd.rs (g : Gd) (on : Nat → Bool) : Nat → Nat → Int
  | 0 => fun _ => 0
  | k + 1 => if 0 < k then upd (Gd.rs g on k) k (Gd.rs g on k (g.par k) + if on k then (g.node k).sag else 0) else Gd.rs g on k
def stp2 (g : Gd) (r : Int) (m : Int) (i : Nat) : Int := if 0 < r then (if (g.limit - Gd.dhi g i).tdiv r < m then (g.limit - Gd.dhi g i).tdiv r else m) else m
def mst2 (g : Gd) (on : Nat → Bool) (m : Int) : Nat → Int
  | 0 => m
  | k + 1 => stp2 g (Gd.rs g on (k + 1) k) (mst2 g on m k) k
def Gd.spare (g : Gd) (x : Nat) : Int := mst2 g (fun i => decide (i ∈ Gd.up g x x)) (mst1 g 1000000 (Gd.up g x x)) g.nodes.length
def Gd.bad (g : Gd) : Bool := decide (0 < (overN (Gd.fuseOf g) (Gd.fhi g) g.nodes.length).length + (overN (fun _ => g.limit) (Gd.dhi g) g.nodes.length).length)
def spareR (g : Gd) (x : Int) : Int × Int :=
  if g.okB then (if 0 ≤ x ∧ x ≤ (g.nodes.length : Int) - 1 then (if Gd.bad g then (0, 9) else (Gd.spare g x.toNat, 0)) else (0, 2)) else (0, 1)
/-- a row of Booleans -/
def tabB (n : Nat) (f : Nat → Bool) : List Go.Value := (List.range n).map fun i => Go.Value.bool (f i)
def updB (f : Nat → Bool) (k : Nat) : Nat → Bool := fun i => if i = k then true else f i
theorem tabB_get {n : Nat} (f : Nat → Bool) {i : Nat} (h : i < n) : (tabB n f)[i]? = some (.bool (f i)) := by simp [tabB, h]
theorem tabB_set (n : Nat) (f : Nat → Bool) (k : Nat) : (tabB n f).set k (.bool true) = tabB n (updB f k) := by
  apply List.ext_getElem?
  intro i
  rw [List.getElem?_set]
  by_cases hi : i < n
  · rw [tabB_get _ hi, tabB_get _ hi]
    by_cases e : k = i
    · subst e; simp [tabB, hi, updB]
    · rw [if_neg e]; simp [updB, Ne.symm e]
  · rw [List.getElem?_eq_none (by simp [tabB]; omega), List.getElem?_eq_none (by simp [tabB]; omega)]
    split
    · rw [if_neg (by simp [tabB]; omega)]
    · rfl
theorem Gd.up_lt {g : Gd} (h : g.ok) : ∀ (k i j : Nat), i < g.nodes.length → j ∈ Gd.up g k i → 0 < j ∧ j < g.nodes.length
  | 0, i, j, _, hj => by simp [Gd.up] at hj
  | k + 1, i, j, hi, hj => by
    unfold Gd.up at hj
    split at hj
    · simp at hj
    · rename_i h0
      rcases List.mem_cons.1 hj with rfl | hj
      · exact ⟨by omega, hi⟩
      · exact Gd.up_lt h k (g.par i) j (by have := Gd.par_lt h (by omega) hi; omega) hj
theorem Gd.fhi_bd {g : Gd} (h : g.ok) (i : Nat) : 0 ≤ Gd.fhi g i ∧ Gd.fhi g i ≤ 30000000 := by
  have hl := h.len
  have hhi : ∀ i, i < g.nodes.length → 0 ≤ g.hi i ∧ g.hi i ≤ 1000000 := fun i hi => by
    have := (h.nodes i hi).load
    unfold Gd.hi; omega
  have := (g.fl_bd h hhi _ (Nat.le_refl _)).1 i
  unfold Gd.fhi Gd.flow; omega
theorem Gd.dhi_bd {g : Gd} (h : g.ok) (i : Nat) : 0 ≤ Gd.dhi g i ∧ Gd.dhi g i ≤ 900000000000 := by
  have hl := h.len
  have := g.dr_bd h (Gd.fhi_bd h) _ (Nat.le_refl _) i
  unfold Gd.dhi Gd.drop
  unfold Gd.fhi at this
  omega
theorem Gd.fuseOf_bd {g : Gd} (h : g.ok) {i : Nat} (hi : i < g.nodes.length) : 0 ≤ Gd.fuseOf g i ∧ Gd.fuseOf g i ≤ 1000000000000 := by
  unfold Gd.fuseOf
  split
  · omega
  · have := (h.nodes i hi).inn (by omega); omega
theorem Gd.rs_bd {g : Gd} (h : g.ok) (on : Nat → Bool) : ∀ k, k ≤ g.nodes.length → ∀ i, 0 ≤ Gd.rs g on k i ∧ Gd.rs g on k i ≤ k * 1000
  | 0, _, i => by simp [Gd.rs]
  | k + 1, hk, i => by
    have ih := Gd.rs_bd h on k (by omega)
    have hx : ((k + 1 : Nat) : Int) * 1000 = k * 1000 + 1000 := by rw [Int.natCast_add, Int.add_mul]; simp
    unfold Gd.rs
    split
    · rename_i h0
      have h1 := ((h.nodes k (by omega)).inn h0).2.2
      have h3 := ih (g.par k)
      by_cases e : i = k
      · subst e; rw [upd_self, hx]; split <;> omega
      · rw [upd_ne _ _ e, hx]; have := ih i; omega
    · have := ih i; rw [hx]; omega
theorem Gd.not_bad {g : Gd} (h : Gd.bad g = false) : (∀ i, i < g.nodes.length → Gd.fhi g i ≤ Gd.fuseOf g i) ∧ ∀ i, i < g.nodes.length → Gd.dhi g i ≤ g.limit := by
  have h1 : (overN (Gd.fuseOf g) (Gd.fhi g) g.nodes.length).length = 0 ∧ (overN (fun _ => g.limit) (Gd.dhi g) g.nodes.length).length = 0 := by
    have := of_decide_eq_false h; omega
  have key : ∀ (lim f : Nat → Int), (overN lim f g.nodes.length).length = 0 → ∀ i, i < g.nodes.length → f i ≤ lim i := by
    intro lim f h0 i hi
    have h2 := List.length_eq_zero_iff.1 h0
    unfold overN at h2
    have h3 := (List.filter_eq_nil_iff.1 h2) i (by simp [hi])
    simp at h3
    exact h3
  exact ⟨key _ _ h1.1, key _ _ h1.2⟩
end Go.Proofs.Ytopfhinnamhoiaa

/- Walk: Spare. -/
namespace Go.Proofs.Ytopfhinnamhoiaa
open Go.RowKit Go.Bs Go.Yd Go.Pl Go.Sort

theorem info4 : (Try.prog.info? 4).map (fun i => (i.zero, i.size, i.bytes)) = some (some (.bool false), 1, 1) := by kernel_rfl
theorem mk134 (n : Nat) (hn : n ≤ 1000000) (w : World) :
    (Instr.makeSlice 134 (.int .i64 (n : Int)) (.int .i64 (n : Int))).run Try.prog w = .ok (.slice (some ⟨w.heap.size, 0, none⟩) n n) (w.alloc (.cells (tabB n fun _ => false).toArray 4)) := by
  obtain ⟨i0, hi, hz0, hz1, hz2⟩ := info_parts info4
  have hr := run_make (P := Try.prog) w 134 4 i0 _ Try.underlying134 hi hz0 .i64 .i64 (n : Int) (n : Int) (by omega) (by omega) (by rw [hz2]; omega) (by omega)
  rw [hr, hz1]
  simp only [Int.toNat_natCast]
  refine congrArg (fun c => Result.ok (Value.slice (some ⟨w.heap.size, 0, none⟩) n n) (w.alloc (.cells c 4))) ?_
  apply Array.ext
  · simp [size_madeCells, tabB]
  · intro j h2 h3
    simp [madeCells, Value.cells, tabB, Nat.mod_one]
theorem mk24n (n : Nat) (hn : n ≤ 1000000) (w : World) :
    (Instr.makeSlice 24 (.int .i64 (n : Int)) (.int .i64 (n : Int))).run Try.prog w = .ok (.slice (some ⟨w.heap.size, 0, none⟩) n n) (w.alloc (.cells ((tab n fun _ => 0).map (Value.int .i64)).toArray 3)) := by
  have := mk24 (n : Int) (by omega) (by omega) w
  simpa using this

structure SpI (w W : World) (g : Gd) (A : Option Addr) (n cap Bf Bd Bo : Nat) (f : Nat → Bool) : Prop where
  bl : Below w.heap.size w W
  b0 : Blk W w.heap.size 43 [.slice A n cap, .int .i64 g.limit]
  F : IArr W Bf 73 (tab (2 * n) (il (Gd.flo g) (Gd.fhi g)))
  D : IArr W Bd 73 (tab (2 * n) (il (Gd.dlo g) (Gd.dhi g)))
  O : Blk W Bo 4 (tabB n f)
  lf : w.heap.size < Bf
  ld : w.heap.size < Bd
  lo : w.heap.size < Bo
  ff : Bf < Bo
  dd : Bd < Bo
section
variable {w W W' : World} {g : Gd} {A : Option Addr} {n cap Bf Bd Bo : Nat} {f : Nat → Bool}
theorem SpI.ext (h : SpI w W g A n cap Bf Bd Bo f) (hb : Below W.heap.size W W') : SpI w W' g A n cap Bf Bd Bo f :=
  ⟨ext_trans h.bl hb, h.b0.ext hb, h.F.ext hb, h.D.ext hb, h.O.ext hb, h.lf, h.ld, h.lo, h.ff, h.dd⟩
theorem SpI.other (h : SpI w W g A n cap Bf Bd Bo f) {p : Addr} (hp : Bo < p.block) (u : Value) : SpI w (W.setCell p u) g A n cap Bf Bd Bo f := by
  have h1 := h.lf
  have h2 := h.ld
  have h3 := h.lo
  have h4 := h.ff
  have h5 := h.dd
  exact ⟨h.bl.setCell (by omega) _, h.b0.other (by omega) _, h.F.other (by omega) _, h.D.other (by omega) _, h.O.other (by omega) _, h1, h2, h3, h4, h5⟩
theorem SpI.set (h : SpI w W g A n cap Bf Bd Bo f) (i : Nat) : SpI w (W.setCell ⟨Bo, i, none⟩ (.bool true)) g A n cap Bf Bd Bo (updB f i) := by
  have h1 := h.lf
  have h2 := h.ld
  have h3 := h.lo
  have h4 := h.ff
  have h5 := h.dd
  refine ⟨h.bl.setCell (by simp; omega) _, h.b0.other (by simp; omega) _, h.F.other (by simp; omega) _, h.D.other (by simp; omega) _, ?_, h1, h2, h3, h4, h5⟩
  have := h.O.set i (.bool true)
  rwa [tabB_set] at this
theorem SpI.x0 (h : SpI w W g A n cap Bf Bd Bo f) : W.cell? ⟨w.heap.size, 0, none⟩ = some (.slice A n cap) := h.b0.cell rfl
theorem SpI.x1 (h : SpI w W g A n cap Bf Bd Bo f) : W.cell? ⟨w.heap.size, 1, none⟩ = some (.int .i64 g.limit) := h.b0.cell rfl
theorem SpI.f1 (h : SpI w W g A n cap Bf Bd Bo f) {i : Nat} (hi : i < n) : W.cell? ⟨Bf, i * 2 + 1, none⟩ = some (.int .i64 (Gd.fhi g i)) := h.F.cell (by rw [tab_get _ (by omega), il_odd])
theorem SpI.d1 (h : SpI w W g A n cap Bf Bd Bo f) {i : Nat} (hi : i < n) : W.cell? ⟨Bd, i * 2 + 1, none⟩ = some (.int .i64 (Gd.dhi g i)) := h.D.cell (by rw [tab_get _ (by omega), il_odd])
end

def SpOut (R : Int × Int) (w : World) (e : Ending) (w' : World) : Prop := e = .returned (.tuple #[.int .i64 R.1, .int .i64 R.2]) ∧ Below w.heap.size w w'

set_option maxRecDepth 100000 in
set_option maxHeartbeats 4000000 in
theorem Spare_any (g : Gd) (A : Option Addr) (n cap : Nat) (x : Int) (w : World) (hn : g.nodes.length = n) (hm : n ≤ 9223372036854775807) (hcap : n ≤ cap) (hd : GdAt w A g) :
    Calls Try.prog 24 #[.agg #[.slice A n cap, .int .i64 g.limit], .int .i64 x] w (SpOut (spareR g x) w) := by
  have hb0 := ext_alloc w (.cells #[.slice A n cap, .int .i64 g.limit] 43)
  have HV := Lib.hid (gvalid_any g A n cap _ hn hm (hd.ext hb0))
  cases hv : g.okB
  · have hR : spareR g x = (0, 1) := by unfold spareR; rw [hv]; rfl
    have HR := Lib.hid hR
    rw [hv] at HV
    clear hv hR hn hm hcap hd
    go_enter Try.func24, Try.ntmps24
    go_wp2_with fail
    refine HV.out.mono ?_; rintro e w1 ⟨rfl, hb1⟩
    go_wp2
    rw [HR.out]
    go_ret2
    exact ⟨rfl, ext_trans hb0 hb1⟩
  · have hok := (Gd.okB_iff g).1 hv
    have hlen := hok.len
    have hn30 : n ≤ 30 := by omega
    rw [hv] at HV
    by_cases hx : 0 ≤ x ∧ x ≤ (n : Int) - 1
    · have hR : spareR g x = if Gd.bad g then (0, 9) else (Gd.spare g x.toNat, 0) := by unfold spareR; rw [hv, hn, if_pos hx]; rfl
      have HR := Lib.hid hR
      have C1 := Lib.hid (within_t hx)
      obtain ⟨i0, rfl⟩ := Int.eq_ofNat_of_zero_le hx.1
      have hi0 : i0 < n := by omega
      clear hv hR hx
      go_enter Try.func24, Try.ntmps24
      go_wp2_with fail
      refine HV.out.mono ?_; rintro e w1 ⟨rfl, hb1⟩
      have hb2 := ext_trans hb0 hb1
      have hx0 : w1.cell? ⟨w.heap.size, 0, none⟩ = some (.slice A n cap) := cell_ext (by simp) hb1
      have hx1 : w1.cell? ⟨w.heap.size, 1, none⟩ = some (.int .i64 g.limit) := cell_ext (by simp) hb1
      have hB : Blk w1 w.heap.size 43 [.slice A n cap, .int .i64 g.limit] := (Blk.new w 43 [.slice A n cap, .int .i64 g.limit]).ext hb1
      have hd2 := hd.ext hb2
      clear hb0 hb1
      go_wp2_with fail
      refine (C1.out _).mono ?_; rintro e w2 ⟨rfl, rfl⟩
      go_wp2_with fail
      refine (flows_any g A n cap _ hok hn hcap (Cells.blk hd2 (fun _ => by simp [Nd.enc]) (by omega)) hd2).mono ?_
      rintro e w2 ⟨Bf, Bd, rfl, hb3, hF, hD, h1, h2, h3⟩
      have l1 := cell_lt hx0
      rw [hn] at hF hD
      have hy0 := cell_ext hx0 hb3
      have hy1 := cell_ext hx1 hb3
      have hb4 := ext_trans hb2 hb3
      have hB4 := hB.ext hb3
      have hd4 := hd.ext hb4
      have HN := Lib.hid hn
      rw [hn]
      clear hn hx0 hx1 hB hb2 hb3 hd2
      go_wp2_with fail
      refine (above_any 78 #[.agg #[.slice A n cap, .int .i64 g.limit]] (Gd.fuseOf g) (Gd.flo g) (Gd.fhi g) Bf n w2 (enters_of Try.func78 (by kernel_rfl) rfl) (by omega) hF ?_).mono ?_
      · intro w' i hi hb
        exact fuse_any g A n cap i w' (by have := HN.out; omega) HN.out (hd4.ext hb)
      rintro e w3 ⟨v, u, rfl, hv, hu, hb5⟩
      have hy2 := cell_ext hy0 hb5
      have hy3 := cell_ext hy1 hb5
      have hb6 := ext_trans hb4 hb5
      have hB6 := hB4.ext hb5
      have hF6 := hF.ext hb5
      have hD6 := hD.ext hb5
      have hd6 := hd.ext hb6
      clear hy0 hy1 hb4 hb5 hB4 hd4 hF hD
      go_wp2_with fail
      refine (above_any 79 #[.agg #[.slice A n cap, .int .i64 g.limit]] (fun _ => g.limit) (Gd.dlo g) (Gd.dhi g) Bd n w3 (enters_of Try.func79 (by kernel_rfl) rfl) (by omega) hD6 ?_).mono ?_
      · intro w' i hi hb
        exact limit_any g A n cap (i : Int) w'
      rintro e w4 ⟨v', u', rfl, hv', hu', hb7⟩
      obtain ⟨Av, cv, rfl, -⟩ := hv
      obtain ⟨Av', cv', rfl, -⟩ := hv'
      obtain ⟨Au, cu, rfl, -⟩ := hu
      obtain ⟨Au', cu', rfl, -⟩ := hu'
      have hy4 := cell_ext hy2 hb7
      have hb8 := ext_trans hb6 hb7
      have hB8 := hB6.ext hb7
      have hF8 := hF6.ext hb7
      have hD8 := hD6.ext hb7
      clear hy2 hy3 hb6 hb7 hB6 hF6 hD6 hd6
      have hbad : Gd.bad g = decide (0 < (natsI (overN (Gd.fuseOf g) (Gd.fhi g) n)).length + (natsI (overN (fun _ => g.limit) (Gd.dhi g) n)).length) := by
        unfold Gd.bad; rw [HN.out, natsI_len, natsI_len]
      have ho1 := overN_len (Gd.fuseOf g) (Gd.fhi g) n
      have ho2 := overN_len (fun _ => g.limit) (Gd.dhi g) n
      rw [← natsI_len] at ho1 ho2
      go_upto_region 8 with fail
      generalize (natsI (overN (Gd.fuseOf g) (Gd.fhi g) n)).length = n1 at *
      generalize (natsI (overN (fun _ => g.limit) (Gd.dhi g) n)).length = n2 at *
      cases hbd : Gd.bad g
      · rw [hbd] at HR hbad
        have hz : ¬ 0 < n1 + n2 := by simpa using hbad.symm
        have hz' : ((n1 : Int) + (n2 : Int)) ≤ 0 := by omega
        have Hnb := Lib.hid (Gd.not_bad hbd)
        clear hz hbad hbd
        have hm1 := mk134 n (by omega)
        go_upto_region 12 with fail
        have hS : SpI w (w4.alloc (.cells (tabB n fun _ => false).toArray 4)) g A n cap Bf Bd w4.heap.size (fun _ => false) := by
          have q1 : Bf < w4.heap.size := hF8.lt
          have q2 : Bd < w4.heap.size := hD8.lt
          exact ⟨ext_trans hb8 (ext_alloc _ _), hB8.alloc _, Blk.alloc hF8 _, Blk.alloc hD8 _, Blk.new w4 4 _, by omega, by omega, by omega, q1, q2⟩
        clear hb8 hB8 hF8 hD8 hy4 hm1
        generalize w4.alloc (.cells (tabB n fun _ => false).toArray 4) = W5 at *
        generalize w4.heap.size = Bo at *
        generalize natsI (overN (Gd.fuseOf g) (Gd.flo g) n) = j1 at *
        generalize natsI (overN (fun _ => g.limit) (Gd.dlo g) n) = j2 at *
        go_wp2
        go_loopw [12, 14] (fun v y wr => ∃ (m : Int) (i k : Nat) (f : Nat → Bool), v = .int .i64 m ∧ y = .int .i64 i ∧ i < n ∧ Hid (i ≤ k) ∧ (-1000000000000 ≤ m ∧ m ≤ 1000000000000) ∧ Hid (mst1 g m (Gd.up g k i) = mst1 g 1000000 (Gd.up g i0 i0)) ∧ Hid (∀ j, (f j || decide (j ∈ Gd.up g k i)) = decide (j ∈ Gd.up g i0 i0)) ∧ SpI w wr g A n cap Bf Bd Bo f) (fun _ y _ => (intOf y).toNat)
        case atStart => exact ⟨1000000, i0, i0, _, rfl, rfl, hi0, Lib.hid (by omega), by omega, Lib.hid rfl, Lib.hid (fun j => by simp), hS⟩
        case round =>
          clear hS
          obtain ⟨m, i, k, f, rfl, rfl, hi, Hik, hmb, Hm, Hf, hS⟩ := hrel
          by_cases hpos : 0 < i
          · have hpos' : (0 : Int) < (i : Int) := by omega
            have hin : (i : Int) < (n : Int) := by omega
            have hi00 : (0 : Int) ≤ (i : Int) := by omega
            have hup : Gd.up g k i = i :: Gd.up g (k - 1) (g.par i) := by
              obtain ⟨k', rfl⟩ : ∃ k', k = k' + 1 := ⟨k - 1, by have := Hik.out; omega⟩
              show (if i = 0 then [] else _) = _
              rw [if_neg (by omega)]; rfl
            have hpar := Gd.par_lt hok hpos (by have := HN.out; omega)
            have Hpar := Lib.hid hpar.2
            have hp1 := hpar.1
            have Hup := Lib.hid hup
            clear hpar hup hpos
            have c0 := hS.O.cell (tabB_get f hi)
            have c1 := hS.O.free i
            go_upto_region 16 with fail
            have hS2 := (hS.set i).ext (ext_drew _)
            refine Dr.wp_region_plan 12 [] (.q [0, 1, 2, 4, 5, 6, 7, 8] (.e1 3 (.q [9, 10, 11] .done))) (by kernel_rfl) (by kernel_rfl) ?_
            clear hS c0 c1
            generalize World.drew _ = W6 at *
            have q0 := Dr.cell0 hS2.x0
            have q1 := Dr.cell0 hS2.x1
            have q2 := Dr.cell0 (hS2.f1 hi)
            refine Dr.plan_q (l := [_, _, _, _, _, _, _, _]) rfl (fun K hK => ?_)
            iterate 8 (go_big_quiet_step (fail))
            refine wpQuiet_nil (hK _ ?_); clear hK K
            refine Dr.plan_e rfl (by rfl) (fun K hK => ?_)
            go_wp2_with fail
            refine (fuse_any g A n cap i W6 (by have := HN.out; omega) HN.out (hd.ext hS2.bl)).mono ?_; rintro e w7 ⟨rfl, hb9⟩
            refine hK _ _ (.of hb9) ?_; clear hK K
            have hS3 := hS2.ext hb9
            have hfb := Gd.fuseOf_bd hok (i := i) (by have := HN.out; omega)
            have hhb := Gd.fhi_bd hok i
            clear hS2 q0 q1 q2
            refine Dr.plan_q (l := [_, _, _]) rfl (fun K hK => ?_)
            iterate 3 (go_big_quiet_step (fail))
            refine wpQuiet_nil (hK _ ?_); clear hK K
            refine Dr.plan_end rfl ?_
            have x0 := hS3.x0
            obtain ⟨b, off, e, -, d0, d1, d2, d3, d4⟩ := (hd.ext hS3.bl).node (k := i) (by have := HN.out; omega)
            subst e
            rw [Hpar.out] at d0
            go_wp2
            go_roundw
            case rel => exact ⟨_, g.par i, k - 1, updB f i, rfl, rfl, by omega, Lib.hid (by have := Hik.out; omega), by split <;> omega, Lib.hid (by rw [← Hm.out, Hup.out]; rfl), Lib.hid (fun j => by
              have h := Hf.out j
              rw [Hup.out] at h
              rw [← h]
              unfold updB
              by_cases e : j = i
              · subst e; simp
              · simp [e]), hS3⟩
            case measure => simp [intOf]; omega
          · obtain rfl : i = 0 := by omega
            have hup : Gd.up g k 0 = [] := by cases k <;> simp [Gd.up]
            have hM : m = mst1 g 1000000 (Gd.up g i0 i0) := by rw [← Hm.out, hup]; rfl
            have hfx : f = fun j => decide (j ∈ Gd.up g i0 i0) := by
              funext j
              have := Hf.out j
              rw [hup] at this
              simpa using this
            have HM := Lib.hid hM
            have Hfx := Lib.hid hfx
            clear hM hfx hup Hm Hf
            have x0 := hS.x0
            have hm2 := mk24n n (by omega)
            go_upto_region 18 with fail
            have hS2 := hS.ext (ext_alloc wr (.cells ((tab n fun _ => 0).map (Value.int .i64)).toArray 3))
            have hR2 : IArr (wr.alloc (.cells ((tab n fun _ => 0).map (Value.int .i64)).toArray 3)) wr.heap.size 3 (tab n fun _ => 0) := Blk.new wr 3 ((tab n fun _ => 0).map (Value.int .i64))
            have hbo : Bo < wr.heap.size := hS.O.lt
            have hwr : w.heap.size < wr.heap.size := hS.b0.lt
            clear hS x0 hm2
            generalize wr.alloc (.cells ((tab n fun _ => 0).map (Value.int .i64)).toArray 3) = W6 at *
            generalize wr.heap.size = Br at *
            have x0 := hS2.x0
            have Hz := Lib.hid (show mst2 g f m 0 = m from rfl)
            go_wp2
            go_loopw [12, 89] (fun v y wr => ∃ (m' : Int) (k : Nat), v = .int .i64 m' ∧ y = .int .i64 k ∧ k ≤ n ∧ (-1000000000000 ≤ m' ∧ m' ≤ 1000000000000) ∧ Hid (mst2 g f m k = m') ∧ IArr wr Br 3 (tab n (Gd.rs g f k)) ∧ SpI w wr g A n cap Bf Bd Bo f) (fun _ y _ => (n - intOf y).toNat)
            case atStart => exact ⟨m, 0, rfl, rfl, by omega, hmb, Hz, hR2, hS2⟩
            case round =>
              clear hS2 hR2 x0 Hz
              obtain ⟨m', k, rfl, rfl, hk, hmb2, Hm2, hR, hS⟩ := hrel
              by_cases hlt : k < n
              · have hlt' : (k : Int) < n := by omega
                have hk0 : (0 : Int) ≤ k := by omega
                obtain ⟨b, off, e, -, c0, c1, c2, c3, c4⟩ := (hd.ext hS.bl).node (k := k) (by have := HN.out; omega)
                have m0 := cell_lt c0
                subst e
                go_upto_region 21 with fail
                have hS2 := hS.ext (ext_alloc wr (.cells #[.int .i64 (g.node k).parent, .int .i64 (g.node k).load.lo, .int .i64 (g.node k).load.hi, .int .i64 (g.node k).fuse, .int .i64 (g.node k).sag] 136))
                have hR2 := hR.ext (ext_alloc wr (.cells #[.int .i64 (g.node k).parent, .int .i64 (g.node k).load.lo, .int .i64 (g.node k).load.hi, .int .i64 (g.node k).fuse, .int .i64 (g.node k).sag] 136))
                have hnd : Blk (wr.alloc (.cells #[.int .i64 (g.node k).parent, .int .i64 (g.node k).load.lo, .int .i64 (g.node k).load.hi, .int .i64 (g.node k).fuse, .int .i64 (g.node k).sag] 136)) wr.heap.size 136 [.int .i64 (g.node k).parent, .int .i64 (g.node k).load.lo, .int .i64 (g.node k).load.hi, .int .i64 (g.node k).fuse, .int .i64 (g.node k).sag] := Blk.new wr 136 [.int .i64 (g.node k).parent, .int .i64 (g.node k).load.lo, .int .i64 (g.node k).load.hi, .int .i64 (g.node k).fuse, .int .i64 (g.node k).sag]
                have hbr : Br < wr.heap.size := Blk.lt hR
                clear hS hR c0 c1 c2 c3 c4 m0
                generalize wr.alloc (.cells #[.int .i64 (g.node k).parent, .int .i64 (g.node k).load.lo, .int .i64 (g.node k).load.hi, .int .i64 (g.node k).fuse, .int .i64 (g.node k).sag] 136) = W7 at *
                generalize wr.heap.size = Bn at *
                have hrs : Gd.rs g f (k + 1) = if 0 < k then upd (Gd.rs g f k) k (Gd.rs g f k (g.par k) + if f k then (g.node k).sag else 0) else Gd.rs g f k := rfl
                have Hrs := Lib.hid hrs
                clear hrs
                go_upto_if 95 with fail
                go_cut [95] (fun _ W => IArr W Br 3 (tab n (Gd.rs g f (k + 1))) ∧ SpI w W g (some ⟨b, off, none⟩) n cap Bf Bd Bo f)
                case first =>
                  by_cases hpos : 0 < k
                  · have hpos' : (0 : Int) < (k : Int) := by omega
                    have hpar := Gd.par_lt hok hpos (by have := HN.out; omega)
                    have Hpar := Lib.hid hpar.2
                    have hp1 := hpar.1
                    have hpn : g.par k < n := by omega
                    have hsag := ((hok.nodes k (by have := HN.out; omega)).inn hpos).2.2
                    have hrb := Gd.rs_bd hok f k (by have := HN.out; omega) (g.par k)
                    rw [if_pos hpos] at Hrs
                    clear hpar hpos
                    have d0 := hnd.cell (i := 0) rfl
                    rw [Hpar.out] at d0
                    have d1 := hR2.cell (tab_get (Gd.rs g f k) hpn)
                    have d2 := hR2.cell (tab_get (Gd.rs g f k) hlt)
                    have d3 := hR2.free k
                    have hp0 : (0 : Int) ≤ (g.par k : Int) := by omega
                    have hpn' : (g.par k : Int) < (n : Int) := by omega
                    go_upto_region 23 with fail
                    have hR3 := hR2.set k (Gd.rs g f k (g.par k))
                    rw [tab_set] at hR3
                    have hS3 := hS2.other (p := ⟨Br, k, none⟩) (by simp; omega) (.int .i64 (Gd.rs g f k (g.par k)))
                    have hnd3 := hnd.other (p := ⟨Br, k, none⟩) (by simp; omega) (.int .i64 (Gd.rs g f k (g.par k)))
                    clear hS2 hR2 hnd d0 d1 d2 d3
                    generalize W7.setCell ⟨Br, k, none⟩ (.int .i64 (Gd.rs g f k (g.par k))) = W8 at *
                    have d4 := hS3.O.cell (tabB_get f hlt)
                    cases hfk : f k
                    · rw [hfk] at d4 Hrs
                      clear hfk
                      go_wp2
                      go_meet
                      case rel => exact ⟨by rw [Hrs.out]; simpa using hR3, hS3⟩
                    · rw [hfk] at d4 Hrs
                      clear hfk
                      go_upto_region 24 with fail
                      refine Dr.wp_region_plan 8 [] (.q [0, 1, 2, 3, 4, 5, 6, 7] .done) (by kernel_rfl) (by kernel_rfl) ?_
                      have hR4 := hR3.ext (ext_drew _)
                      have hS4 := hS3.ext (ext_drew _)
                      have hnd4 := hnd3.ext (ext_drew _)
                      clear hR3 hS3 hnd3 d4
                      generalize World.drew _ = W9 at *
                      have e0 := hR4.cell (tab_get _ hlt)
                      rw [upd_self] at e0
                      have q0 := Dr.cell0 e0
                      have q1 := Dr.cell0 (hnd4.cell (i := 4) rfl)
                      refine Dr.plan_q (l := [_, _, _, _, _, _, _, _]) rfl (fun K hK => ?_)
                      iterate 8 (go_big_quiet_step (fail))
                      refine wpQuiet_nil (hK _ ?_); clear hK K
                      refine Dr.plan_done (tl := [_]) rfl ?_
                      have e1 := hR4.free k
                      go_wp2
                      have hR5 := hR4.set k (Gd.rs g f k (g.par k) + (g.node k).sag)
                      rw [tab_set, upd_upd] at hR5
                      go_meet
                      case rel => exact ⟨by rw [Hrs.out]; simpa using hR5, hS4.other (by simp; omega) _⟩
                  · have hpos' : (k : Int) ≤ 0 := by omega
                    rw [if_neg hpos] at Hrs
                    clear hpos
                    go_wp2
                    go_meet
                    case rel => exact ⟨by rw [Hrs.out]; exact hR2, hS2⟩
                case rest =>
                  obtain ⟨hR3, hS3⟩ := hcut
                  clear hR2 hS2 hnd
                  have hst : mst2 g f m (k + 1) = stp2 g (Gd.rs g f (k + 1) k) m' k := by rw [← Hm2.out]; rfl
                  have hrb := Gd.rs_bd hok f (k + 1) (by have := HN.out; omega) k
                  have d0 := hR3.cell (tab_get (Gd.rs g f (k + 1)) hlt)
                  have Hst := Lib.hid hst
                  clear hst Hrs
                  generalize hr : Gd.rs g f (k + 1) k = r at *
                  have Hr := Lib.hid hr
                  clear hr
                  by_cases hrp : 0 < r
                  · have hst2 : stp2 g r m' k = if (g.limit - Gd.dhi g k).tdiv r < m' then (g.limit - Gd.dhi g k).tdiv r else m' := by unfold stp2; rw [if_pos hrp]
                    have Hst2 := Lib.hid hst2
                    clear hst2
                    go_upto_region 26 with fail
                    refine Dr.wp_region_plan 16 [] (.q [0, 1, 2, 3, 4, 5, 6, 7, 8, 9, 10, 11, 12, 13, 14, 15] .done) (by kernel_rfl) (by kernel_rfl) ?_
                    have hR4 := hR3.ext (ext_drew _)
                    have hS4 := hS3.ext (ext_drew _)
                    clear hR3 hS3 d0
                    generalize World.drew _ = W9 at *
                    have e0 := hR4.cell (tab_get (Gd.rs g f (k + 1)) hlt)
                    rw [Hr.out] at e0
                    have q0 := Dr.cell0 e0
                    have q1 := Dr.cell0 hS4.x1
                    have q2 := Dr.cell0 (hS4.d1 hlt)
                    have hlb := hok.lim
                    have hdb := Gd.dhi_bd hok k
                    have hdl := Hnb.out.2 k (by have := HN.out; omega)
                    refine Dr.plan_q (l := [_, _, _, _, _, _, _, _, _, _, _, _, _, _, _, _]) rfl (fun K hK => ?_)
                    have hrne : r ≠ 0 := by omega
                    have hq0 : 0 ≤ (g.limit - Gd.dhi g k).tdiv r := Int.tdiv_nonneg (by omega) (by omega)
                    have hq1 : (g.limit - Gd.dhi g k).tdiv r ≤ g.limit - Gd.dhi g k := by
                      rw [Int.tdiv_eq_ediv_of_nonneg (by omega)]
                      exact Int.ediv_le_self _ (by omega)
                    iterate 16 (go_big_quiet_step (fail))
                    refine wpQuiet_nil (hK _ ?_); clear hK K
                    refine Dr.plan_end rfl ?_
                    go_wp2
                    go_roundw
                    case rel => exact ⟨_, k + 1, rfl, by go_num, by omega, by split <;> omega, Lib.hid (by rw [Hst.out, Hst2.out]), hR4, hS4⟩
                    case measure => simp [intOf]; omega
                  · have hst2 : stp2 g r m' k = m' := by unfold stp2; rw [if_neg hrp]
                    have Hst2 := Lib.hid hst2
                    have hrp' : r ≤ 0 := by omega
                    clear hst2 hrp
                    go_wp2
                    go_roundw
                    case rel => exact ⟨m', k + 1, rfl, by go_num, by omega, hmb2, Lib.hid (by rw [Hst.out, Hst2.out]), hR3, hS3⟩
                    case measure => simp [intOf]; omega
              · obtain rfl : k = n := by omega
                have hres : spareR g (i0 : Int) = (m', 0) := by
                  rw [HR.out]
                  show (Gd.spare g i0, (0 : Int)) = _
                  unfold Gd.spare
                  rw [HN.out, ← Hfx.out, ← HM.out, Hm2.out]
                have Hres := Lib.hid hres
                clear hres
                go_wp2
                rw [Hres.out]
                go_ret2
                exact ⟨rfl, hS.bl⟩
      · rw [hbd] at HR hbad
        have hz : 0 < n1 + n2 := by simpa using hbad.symm
        have hz' : 0 < ((n1 : Int) + (n2 : Int)) := by omega
        clear hz hbad hbd
        go_wp2
        rw [HR.out]
        go_ret2
        exact ⟨rfl, hb8⟩
    · have hR : spareR g x = (0, 2) := by unfold spareR; rw [hv, hn, if_neg hx]; rfl
      have HR := Lib.hid hR
      have C1 := Lib.hid (within_f hx)
      clear hv hR hx
      go_enter Try.func24, Try.ntmps24
      go_wp2_with fail
      refine HV.out.mono ?_; rintro e w1 ⟨rfl, hb1⟩
      have hb2 := ext_trans hb0 hb1
      have hx0 : w1.cell? ⟨w.heap.size, 0, none⟩ = some (.slice A n cap) := cell_ext (by simp) hb1
      go_wp2_with fail
      refine (C1.out _).mono ?_; rintro e w2 ⟨rfl, rfl⟩
      go_wp2
      rw [HR.out]
      go_ret2
      exact ⟨rfl, hb2⟩
end Go.Proofs.Ytopfhinnamhoiaa

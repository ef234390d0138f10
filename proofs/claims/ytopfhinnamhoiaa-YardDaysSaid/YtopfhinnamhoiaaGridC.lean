/- Walk: flows. Its rows of ranges. -/
import Derived.Test.YtopfhinnamhoiaaGridB
import Derived.Test.YtopfhinnamhoiaaDrawIn
import Derived.Test.YtopfhinnamhoiaaBuyA
namespace Go.Proofs.Ytopfhinnamhoiaa
open Go.RowKit Go.Bs Go.Yd Go.Pl Go.Sort

/-- a range more, x times, as the machine reckons it -/
def plusW (a x b : Int) : Int := wrap64 (a + wrap64 (x * b))
theorem plus_w (a0 a1 b0 b1 x : Int) (w : World) :
    Calls Try.prog 103 #[.agg #[.int .i64 a0, .int .i64 a1], .agg #[.int .i64 b0, .int .i64 b1], .int .i64 x] w fun e w' => e = .returned (.agg #[.int .i64 (plusW a0 x b0), .int .i64 (plusW a1 x b1)]) ∧ Below w.heap.size w w' := by
  generalize hr0 : plusW a0 x b0 = r0
  generalize hr1 : plusW a1 x b1 = r1
  have Hr0 := Lib.hid (show wrap64 (a0 + wrap64 (x * b0)) = r0 from hr0)
  have Hr1 := Lib.hid (show wrap64 (a1 + wrap64 (x * b1)) = r1 from hr1)
  clear hr0 hr1
  go_enter Try.func103, Try.ntmps103
  go_wp2
  rw [Hr0.out, Hr1.out]
  refine bodyPost_ret (v := .agg #[.int .i64 r0, .int .i64 r1]) (by simp [results, Try.results103, go_sem]) rfl ?_
  exact ⟨rfl, ((Below.refl _ _).alloc (Nat.le_refl _) _ |>.alloc (by simp) _).alloc (by simp; omega) _⟩

/-- two rows as one, pair by pair -/
def il (lo hi : Nat → Int) (k : Nat) : Int := if k % 2 = 0 then lo (k / 2) else hi (k / 2)
theorem il_even (lo hi : Nat → Int) (i : Nat) : il lo hi (i * 2) = lo i := by
  unfold il; rw [if_pos (by omega), show i * 2 / 2 = i by omega]
theorem il_odd (lo hi : Nat → Int) (i : Nat) : il lo hi (i * 2 + 1) = hi i := by
  unfold il; rw [if_neg (by omega), show (i * 2 + 1) / 2 = i by omega]
theorem il_upd (lo hi : Nat → Int) (i : Nat) (a b : Int) : upd (upd (il lo hi) (i * 2) a) (i * 2 + 1) b = il (upd lo i a) (upd hi i b) := by
  funext k
  simp only [upd, il]
  by_cases h1 : k = i * 2 + 1
  · subst h1; rw [if_pos rfl, if_neg (by omega), if_pos (by omega)]
  · rw [if_neg h1]
    by_cases h2 : k = i * 2
    · subst h2; rw [if_pos rfl, if_pos (by omega), if_pos (by omega)]
    · rw [if_neg h2]
      split
      · rw [if_neg (by omega)]
      · rw [if_neg (by omega)]
theorem tab_set2 (n : Nat) (lo hi : Nat → Int) (i : Nat) (a b : Int) : ((tab n (il lo hi)).set (i * 2) a).set (i * 2 + 1) b = tab n (il (upd lo i a) (upd hi i b)) := by
  rw [tab_set, tab_set, il_upd]

theorem info73 : (Try.prog.info? 73).map (fun i => (i.zero, i.size, i.bytes)) = some (some (.agg #[.int .i64 0, .int .i64 0]), 2, 16) := by kernel_rfl
theorem mk67 (n : Nat) (hn : n ≤ 1000000) (w : World) :
    (Instr.makeSlice 67 (.int .i64 (n : Int)) (.int .i64 (n : Int))).run Try.prog w = .ok (.slice (some ⟨w.heap.size, 0, none⟩) n n) (w.alloc (.cells ((tab (2 * n) (il (fun _ => 0) fun _ => 0)).map (Value.int .i64)).toArray 73)) := by
  obtain ⟨i0, hi, hz0, hz1, hz2⟩ := info_parts info73
  have hr := run_make (P := Try.prog) w 67 73 i0 _ Try.underlying67 hi hz0 .i64 .i64 (n : Int) (n : Int) (by omega) (by omega) (by rw [hz2]; omega) (by omega)
  rw [hr, hz1]
  simp only [Int.toNat_natCast]
  refine congrArg (fun c => Result.ok (Value.slice (some ⟨w.heap.size, 0, none⟩) n n) (w.alloc (.cells c 73))) ?_
  apply Array.ext
  · simp [size_madeCells, tab_len]; omega
  · intro j h2 h3
    have hz : il (fun _ => 0) (fun _ => 0) j = 0 := by unfold il; split <;> rfl
    have hj : j % 2 = 0 ∨ j % 2 = 1 := by omega
    rcases hj with hj | hj <;> simp [madeCells, Value.cells, tab, hz, hj]

/-- What stands in memory while flows goes. -/
structure FlI (w W : World) (A : Option Addr) (n cap : Nat) (lim : Int) (Bf Bd : Nat) (lo hi dlo dhi : Nat → Int) : Prop where
  bl : Below w.heap.size w W
  b1 : Blk W w.heap.size 43 [.slice A n cap, .int .i64 lim]
  b2 : Blk W (w.heap.size + 1) 67 [.slice (some ⟨Bf, 0, none⟩) n n]
  F : IArr W Bf 73 (tab (2 * n) (il lo hi))
  D : IArr W Bd 73 (tab (2 * n) (il dlo dhi))
  lf : w.heap.size + 1 < Bf
  ld : w.heap.size + 1 < Bd
  nfd : Bf ≠ Bd
section
variable {w W W' : World} {A : Option Addr} {n cap : Nat} {lim : Int} {Bf Bd : Nat} {lo hi dlo dhi : Nat → Int}
theorem FlI.ext (h : FlI w W A n cap lim Bf Bd lo hi dlo dhi) (hb : Below W.heap.size W W') : FlI w W' A n cap lim Bf Bd lo hi dlo dhi :=
  ⟨ext_trans h.bl hb, h.b1.ext hb, h.b2.ext hb, h.F.ext hb, h.D.ext hb, h.lf, h.ld, h.nfd⟩
theorem FlI.setF (h : FlI w W A n cap lim Bf Bd lo hi dlo dhi) (i : Nat) (a b : Int) : FlI w ((W.setCell ⟨Bf, i * 2, none⟩ (.int .i64 a)).setCell ⟨Bf, i * 2 + 1, none⟩ (.int .i64 b)) A n cap lim Bf Bd (upd lo i a) (upd hi i b) dlo dhi := by
  have l1 := h.lf
  have l2 := h.ld
  have l3 := h.nfd
  refine ⟨(h.bl.setCell (by simp; omega) _).setCell (by simp; omega) _, (h.b1.other (by simp; omega) _).other (by simp; omega) _, (h.b2.other (by simp; omega) _).other (by simp; omega) _, ?_, (h.D.other (by simp; omega) _).other (by simp; omega) _, l1, l2, l3⟩
  have := (h.F.set (i * 2) a).set (i * 2 + 1) b
  rwa [tab_set2] at this
theorem FlI.setD (h : FlI w W A n cap lim Bf Bd lo hi dlo dhi) (i : Nat) (a b : Int) : FlI w ((W.setCell ⟨Bd, i * 2, none⟩ (.int .i64 a)).setCell ⟨Bd, i * 2 + 1, none⟩ (.int .i64 b)) A n cap lim Bf Bd lo hi (upd dlo i a) (upd dhi i b) := by
  have l1 := h.lf
  have l2 := h.ld
  have l3 := h.nfd
  refine ⟨(h.bl.setCell (by simp; omega) _).setCell (by simp; omega) _, (h.b1.other (by simp; omega) _).other (by simp; omega) _, (h.b2.other (by simp; omega) _).other (by simp; omega) _, (h.F.other (by simp; omega) _).other (by simp; omega) _, ?_, l1, l2, l3⟩
  have := (h.D.set (i * 2) a).set (i * 2 + 1) b
  rwa [tab_set2] at this
theorem FlI.x0 (h : FlI w W A n cap lim Bf Bd lo hi dlo dhi) : W.cell? ⟨w.heap.size, 0, none⟩ = some (.slice A n cap) := h.b1.cell rfl
theorem FlI.x2 (h : FlI w W A n cap lim Bf Bd lo hi dlo dhi) : W.cell? ⟨w.heap.size + 1, 0, none⟩ = some (.slice (some ⟨Bf, 0, none⟩) n n) := h.b2.cell rfl
theorem FlI.f0 (h : FlI w W A n cap lim Bf Bd lo hi dlo dhi) {i : Nat} (hi' : i < n) : W.cell? ⟨Bf, i * 2, none⟩ = some (.int .i64 (lo i)) := h.F.cell (by rw [tab_get _ (by omega), il_even])
theorem FlI.f1 (h : FlI w W A n cap lim Bf Bd lo hi dlo dhi) {i : Nat} (hi' : i < n) : W.cell? ⟨Bf, i * 2 + 1, none⟩ = some (.int .i64 (hi i)) := h.F.cell (by rw [tab_get _ (by omega), il_odd])
theorem FlI.d0 (h : FlI w W A n cap lim Bf Bd lo hi dlo dhi) {i : Nat} (hi' : i < n) : W.cell? ⟨Bd, i * 2, none⟩ = some (.int .i64 (dlo i)) := h.D.cell (by rw [tab_get _ (by omega), il_even])
theorem FlI.d1 (h : FlI w W A n cap lim Bf Bd lo hi dlo dhi) {i : Nat} (hi' : i < n) : W.cell? ⟨Bd, i * 2 + 1, none⟩ = some (.int .i64 (dhi i)) := h.D.cell (by rw [tab_get _ (by omega), il_odd])
end
theorem Blk.kept {W W' : World} {B T : Nat} {cs : List Value} {row : Option Nat} (h : Blk W B T cs) (hg : W.grownBy W' row) (hr : ∀ r, row = some r → ∃ o : Obj, W.heap[r]? = some o ∧ o.isCells = false) : Blk W' B T cs :=
  (hg.block B h.lt (fun e => by
    obtain ⟨o, h1, h2⟩ := hr B e.symm
    rw [show W.heap[B]? = _ from h] at h1
    cases h1; cases h2)).trans h

/-- one node's flow is reckoned and handed on -/
def stepW (g : Gd) (l : Nat → Int) (f : Nat → Int) (i : Nat) : Nat → Int :=
  if 0 < i then upd (upd f i (plusW (f i) 1 (l i))) (g.par i) (plusW (upd f i (plusW (f i) 1 (l i)) (g.par i)) 1 (upd f i (plusW (f i) 1 (l i)) i)) else upd f i (plusW (f i) 1 (l i))
def flW (g : Gd) (l : Nat → Int) {n : Nat} (pre : List (Ix n)) : Nat → Int := pre.foldl (fun f x => stepW g l f x.1) fun _ => 0
theorem flW_snoc (g : Gd) (l : Nat → Int) {n : Nat} (pre : List (Ix n)) (x : Ix n) : flW g l (pre ++ [x]) = stepW g l (flW g l pre) x.1 := by simp [flW]
theorem plusW_eq {a x b : Int} (h1 : -9000000000000000000 ≤ x * b ∧ x * b ≤ 9000000000000000000) (h2 : -9000000000000000000 ≤ a + x * b ∧ a + x * b ≤ 9000000000000000000) : plusW a x b = a + x * b := by
  unfold plusW
  rw [Go.IntWalk.wrap64_in (x * b) (by omega), Go.IntWalk.wrap64_in _ (by omega)]
theorem flW_eq {g : Gd} (h : g.ok) {l : Nat → Int} (hl : ∀ i, i < g.nodes.length → 0 ≤ l i ∧ l i ≤ 1000000) : ∀ (k : Nat) (hk : k ≤ g.nodes.length), flW g l (backs g.nodes.length k hk) = g.fl l k
  | 0, _ => rfl
  | k + 1, hk => by
    have hlen := h.len
    show flW g l (backs g.nodes.length k _ ++ [⟨g.nodes.length - 1 - k, _⟩]) = _
    rw [flW_snoc, flW_eq h hl k (by omega)]
    have hb := (g.fl_bd h hl k (by omega)).1
    have hb2 := (g.fl_bd h hl (k + 1) hk).1
    have hli := hl (g.nodes.length - 1 - k) (by omega)
    have hlk : (k : Int) ≤ 30 := by omega
    show stepW g l (g.fl l k) (g.nodes.length - 1 - k) = _
    have e0 : g.fl l (k + 1) = if 0 < g.nodes.length - 1 - k then upd (upd (g.fl l k) (g.nodes.length - 1 - k) (g.fl l k (g.nodes.length - 1 - k) + l (g.nodes.length - 1 - k))) (g.par (g.nodes.length - 1 - k)) ((upd (g.fl l k) (g.nodes.length - 1 - k) (g.fl l k (g.nodes.length - 1 - k) + l (g.nodes.length - 1 - k))) (g.par (g.nodes.length - 1 - k)) + (upd (g.fl l k) (g.nodes.length - 1 - k) (g.fl l k (g.nodes.length - 1 - k) + l (g.nodes.length - 1 - k))) (g.nodes.length - 1 - k)) else upd (g.fl l k) (g.nodes.length - 1 - k) (g.fl l k (g.nodes.length - 1 - k) + l (g.nodes.length - 1 - k)) := rfl
    rw [e0]
    clear e0 hb2
    generalize g.fl l k = f at *
    generalize g.nodes.length - 1 - k = i at *
    have hfi := hb i
    have e1 : plusW (f i) 1 (l i) = f i + l i := by rw [plusW_eq (by omega) (by omega)]; omega
    unfold stepW
    rw [e1, upd_self]
    split
    · have hfp : 0 ≤ (upd f i (f i + l i)) (g.par i) ∧ (upd f i (f i + l i)) (g.par i) ≤ 100000000 := by
        unfold upd
        split
        · omega
        · have := hb (g.par i); omega
      rw [plusW_eq (by omega) (by omega)]
      congr 1
      omega
    · rfl
end Go.Proofs.Ytopfhinnamhoiaa

/- Walks: the reference's Bound; light. -/
import Derived.Test.YtcnidhcdkbfpcaaGreatPrlG
import Derived.Test.YtcnidhcdkbfpcaaGreatPgI
namespace Go.Pg
open Go.Pl
namespace Sh
/-- the bound so far -/
def bndTo (s : Sh) (T : List (List Int)) (i : Nat) : Int := minL maxT (((List.range i).filter s.first).map fun a => s.atT T (one a))
theorem bndTo_succ {s : Sh} (T : List (List Int)) (i : Nat) : s.bndTo T (i + 1) = if s.first i = true then min (s.bndTo T i) (s.atT T ⟨2 ^ i, i, i⟩) else s.bndTo T i := by
  unfold bndTo
  rw [List.range_succ, List.filter_append, List.map_append, minL_append]
  by_cases h : s.first i = true
  · rw [if_pos h, List.filter_cons, if_pos h]; rfl
  · rw [if_neg h, List.filter_cons, if_neg h]; rfl
/-- is an act in no pair up to q the later one? -/
def fstTo (s : Sh) (i q : Nat) : Bool := (s.before.take q).all fun p => decide (p.2 ≠ (i : Int))
theorem fstTo_succ {s : Sh} {i q : Nat} (h : q < s.before.length) : s.fstTo i (q + 1) = (s.fstTo i q && decide (s.before[q].2 ≠ (i : Int))) := by
  unfold fstTo
  rw [List.take_succ_eq_append_getElem h, List.all_append]
  simp
theorem fstTo_end {s : Sh} (i : Nat) : s.fstTo i s.before.length = s.first i := by
  unfold fstTo first why early
  rw [List.take_length]
  have e : ∀ l : List (Int × Int), (l.any fun p => decide (p.2 = (i : Int)) && !(0 : Nat).testBit p.1.toNat) = !(l.all fun p => decide (p.2 ≠ (i : Int))) := by
    intro l
    induction l with
    | nil => rfl
    | cons x l ih =>
      rw [List.any_cons, List.all_cons, ih]
      by_cases h : x.2 = (i : Int)
      · simp [h]
      · simp [h]
  rw [e]
  cases (s.before.all fun p => decide (p.2 ≠ (i : Int))) <;> rfl
end Sh
end Go.Pg
namespace Go.Proofs.YtcnidhcdkbfpcaaGreat
open Go.RowKit Go.Bs Go.Pg Go.Pl Go.Sort
set_option maxRecDepth 100000 in
set_option maxHeartbeats 2000000 in
theorem RBound_any (s : Sh) (p : ShP) (A : Option Addr) (m c : Nat) (T : List (List Int)) (w : World) (h : ShM w s p) (hok : s.Ok) (hm : T.length = m) (hT : TabA w A T) (hsh : s.shapeB T = true) :
    Calls Tryz.prog 15 #[shV s p, .slice A m c] w fun e w' => e = .returned (.int .i64 (s.bound T)) ∧ Below w.heap.size w w' := by
  have n8 := hok.n8
  have b20 := hok.b20
  have hb0 := ext_alloc w (.cells (shC s p).toArray 26)
  have hS := Blk.new w 26 (shC s p)
  have h0 := h.ext hb0
  have hT0 := hT.ext hb0
  have Hok := Lib.hid hok
  have Hm := Lib.hid hm
  obtain ⟨hs1, hs2⟩ := shape_bad hsh
  have Hs1 := Lib.hid hs1
  have Hs2 := Lib.hid hs2
  have Hws : Hid (s.whole + 1 = 2 ^ s.acts.length) := Lib.hid (by unfold Sh.whole; have := Nat.two_pow_pos s.acts.length; omega)
  have HR := Lib.hid (show s.bound T = s.bndTo T s.acts.length from rfl)
  have HU := Lib.hid (fun i => Sh.bndTo_succ (s := s) T i)
  have HZ := Lib.hid (show s.bndTo T 0 = 1000000 from rfl)
  generalize s.bound T = res at *
  clear h hok hm hT hsh hs1 hs2
  unfold shV at *
  unfold shC at *
  go_enter Tryz.func15, Tryz.ntmps15
  go_upto_region 1 with fail
  change Blk (w.alloc (.cells #[.slice p.A s.acts.length p.cA, .slice p.R s.rest.length p.cR, .slice p.I s.ins.length p.cI, .slice p.O s.outs.length p.cO, .int .i64 s.cover, .int .i64 s.dull, .slice p.B s.before.length p.cB] 26)) _ _ _ at hS
  generalize w.alloc (.cells #[.slice p.A s.acts.length p.cA, .slice p.R s.rest.length p.cR, .slice p.I s.ins.length p.cI, .slice p.O s.outs.length p.cO, .int .i64 s.cover, .int .i64 s.dull, .slice p.B s.before.length p.cB] 26) = W0 at *
  have x0 : W0.cell? ⟨w.heap.size, 0, none⟩ = _ := hS.cell (i := 0) rfl
  go_upto_region 3 with fail
  clear x0
  go_upto_block 0 with fail
  go_wp2
  go_loopw [5, 7] (fun z t wr => ∃ i : Nat, z = .int .i64 (s.bndTo T i) ∧ t = .int .i64 i ∧ i ≤ s.acts.length ∧ Below W0.heap.size W0 wr) (fun _ t _ => s.acts.length - (intOf t).toNat)
  case atStart => exact ⟨0, by rw [HZ.out], rfl, by omega, Below.refl _ _⟩
  case round =>
    obtain ⟨i, rfl, rfl, hi, hbr⟩ := hrel
    by_cases hlt : i < s.acts.length
    rotate_left
    · obtain rfl : i = s.acts.length := by omega
      have HR2 : Hid (res = s.bndTo T s.acts.length) := HR
      go_wp2
      go_ret
      exact ⟨by rw [HR2.out]; rfl, hb0.trans (hbr.mono hb0.size)⟩
    have hlt' : (i : Int) < (s.acts.length : Int) := by omega
    have hi0 : (0 : Int) ≤ (i : Int) := by omega
    have Hst := Lib.hid (HU.out i)
    have Hen := Lib.hid (Sh.fstTo_end (s := s) i)
    generalize s.bndTo T i = bd at *
    go_upto_block 2 with fail
    go_wp2
    generalize wr = w4 at *
    go_loopw [8, 9] (fun z t wq => ∃ q : Nat, z = .bool (s.fstTo i q) ∧ t = .int .i64 q ∧ q ≤ s.before.length ∧ Below W0.heap.size W0 wq) (fun _ t _ => s.before.length - (intOf t).toNat)
    case atStart => exact ⟨0, by simp [Sh.fstTo], rfl, by omega, hbr⟩
    case round =>
      clear hbr
      obtain ⟨q, rfl, rfl, hq, hbr⟩ := hrel
      have hSr := hS.ext hbr
      have hmr := h0.ext hbr
      have x6 : wr.cell? ⟨w.heap.size, 6, none⟩ = _ := hSr.cell (i := 6) rfl
      by_cases hltq : q < s.before.length
      · have hltq' : (q : Int) < (s.before.length : Int) := by omega
        have hq0 : (0 : Int) ≤ (q : Int) := by omega
        have Hs := Lib.hid (Sh.fstTo_succ (s := s) (i := i) hltq)
        generalize s.fstTo i q = fq at *
        obtain ⟨bp, op, hB, -, cp0, cp1⟩ := hmr.before.at2 hltq rfl
        rw [hB] at x6
        generalize s.before[q].2 = fb at *
        clear hB hSr hmr cp0
        cases fq
        · have HS1 := Lib.hid (show s.fstTo i (q + 1) = false from by rw [Hs.out]; rfl)
          go_wp2
          go_roundw
          case rel => exact ⟨q + 1, by rw [HS1.out], by go_num, by omega, hbr⟩
          case measure => simp [intOf]; omega
        · have HS1 := Lib.hid (show s.fstTo i (q + 1) = (fb != (i : Int)) from by rw [Hs.out, Bool.true_and, Bool.eq_iff_iff]; simp)
          go_wp2
          go_roundw
          case rel => exact ⟨q + 1, by rw [HS1.out], by go_num, by omega, hbr⟩
          case measure => simp [intOf]; omega
      · obtain rfl : q = s.before.length := by omega
        rw [Hen.out]
        clear Hen hSr hmr
        generalize s.first i = fi at *
        cases fi
        · have HN : Hid (s.bndTo T (i + 1) = bd) := Lib.hid (by rw [Hst.out]; simp)
          go_wp2
          go_roundw
          case rel => exact ⟨i + 1, by rw [HN.out], by go_num, by omega, hbr⟩
          case measure => simp [intOf]; omega
        have HN : Hid (s.bndTo T (i + 1) = min bd (s.atT T ⟨2 ^ i, i, i⟩)) := Lib.hid (by rw [Hst.out]; simp)
        have hP : 2 ^ i < T.length := by rw [Hs1.out, Hws.out]; exact Nat.pow_lt_pow_right (by omega) hlt
        have hpa := pow64 (show i < 16 by omega)
        obtain ⟨hmu, hmu64⟩ := mul64 (show i ≤ 8 by omega) n8 (x := i * s.acts.length) rfl
        have hid := tab_bd hlt hlt
        have h256 := pow_le8 (show i ≤ 8 by omega)
        obtain ⟨b0, o0, b1, o1, c1, hA, q0, q1⟩ := (hT0.ext hbr).at (s := s) rfl (fun t ht => (Hs2.out t ht).1) hP hlt hlt
        have hbd : 0 ≤ s.atT T ⟨2 ^ i, i, i⟩ ∧ s.atT T ⟨2 ^ i, i, i⟩ ≤ 1000000 := by
          have hl := (Hs2.out _ hP).1
          have hi : i * s.acts.length + i < T[2 ^ i].length := by rw [hl]; exact tab_bd hlt hlt
          rw [atT_eq (x := ⟨2 ^ i, i, i⟩) hP hi]
          exact (Hs2.out _ hP).2 _ hi
        subst hA
        rw [Hm.out] at hP
        generalize s.atT T ⟨2 ^ i, i, i⟩ = v at *
        generalize 2 ^ i = P at *
        generalize s.acts.length * s.acts.length = nn at *
        generalize i * s.acts.length = an at *
        obtain ⟨ix, hix⟩ : ∃ ix : Nat, ix = an + i := ⟨_, rfl⟩
        rw [← hix] at hid q1
        have hsum : (an : Int) + (i : Int) = (ix : Int) := by omega
        have hP0 : (0 : Int) ≤ (P : Int) := by omega
        have hP1 : (P : Int) < (m : Int) := by omega
        have hix0 : (0 : Int) ≤ (ix : Int) := by omega
        have hix1 : (ix : Int) < (nn : Int) := by omega
        have Hix := Lib.hid hix
        clear hix
        go_wp2
        go_roundw
        case rel => exact ⟨i + 1, by rw [HN.out], by go_num, by omega, hbr⟩
        case measure => simp [intOf]; omega
end Go.Proofs.YtcnidhcdkbfpcaaGreat

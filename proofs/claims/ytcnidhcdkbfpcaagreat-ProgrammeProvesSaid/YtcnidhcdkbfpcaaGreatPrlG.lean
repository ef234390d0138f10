/- Walks: the reference's may, RightTable, Bound. -/
import Derived.Test.YtcnidhcdkbfpcaaGreatPgK
import Derived.Test.YtcnidhcdkbfpcaaGreatPgG
namespace Go.Pg
open Go.Pl
namespace Sh
theorem may_eq {s : Sh} (set a b c : Nat) : s.may ⟨set, a, b⟩ c = if set.testBit c = true then false else if s.cover < s.chM a c then false else if s.tired a c 0 = true then false else if b ≠ a ∧ s.tired b c 1 = true then false else !s.early c set := by
  rw [Bool.eq_iff_iff]
  unfold may
  rw [Bool.and_eq_true, decide_eq_true_eq, why_iff]
  simp only [Bool.not_eq_true']
  have hs : ∀ (P : Nat → Prop), ((0 : Int) ≤ secI ⟨set, a, b⟩ → P (secI ⟨set, a, b⟩).toNat) ↔ (b ≠ a → P b) := by
    intro P
    unfold secI
    by_cases h : b = a
    · rw [if_pos h]; simp [h]
    · rw [if_neg h]; simp [h]
  rw [hs (fun k => s.tired k c 1 = false)]
  have hl : (0 : Int) ≤ ((a : Nat) : Int) := by omega
  simp only [hl, true_implies, Int.toNat_natCast]
  by_cases h1 : set.testBit c = true
  · simp [h1]
  rw [if_neg h1]
  by_cases h2 : s.cover < s.chM a c
  · rw [if_pos h2]; simp; intro _ h; omega
  rw [if_neg h2]
  by_cases h3 : s.tired a c 0 = true
  · simp [h3]
  rw [if_neg h3]
  by_cases h4 : b ≠ a ∧ s.tired b c 1 = true
  · rw [if_pos h4]; simp [h4.1, h4.2]
  rw [if_neg h4]
  have h5 : b ≠ a → s.tired b c 1 = false := fun h => by
    cases ht : s.tired b c 1
    · rfl
    · exact absurd ⟨h, ht⟩ h4
  simp only [Bool.not_eq_true] at h1 h3
  simp only [h1, h3, Bool.not_eq_true', true_and]
  constructor
  · rintro ⟨_, _, h⟩; exact h
  · intro h; exact ⟨by omega, h5, h⟩
end Sh
end Go.Pg
namespace Go.Proofs.YtcnidhcdkbfpcaaGreat
open Go.RowKit Go.Bs Go.Pg Go.Pl Go.Sort
set_option maxRecDepth 100000 in
set_option maxHeartbeats 2000000 in
theorem RMay_any (s : Sh) (p : ShP) (set a b c : Nat) (w : World) (h : ShM w s p) (hok : s.Ok) (hset : set < 65536) (ha : a < s.acts.length) (hb : b < s.acts.length) (hc : c < s.acts.length) :
    Calls Tryz.prog 31 #[shV s p, .int .i64 set, .int .i64 a, .int .i64 b, .int .i64 c] w fun e w' => e = .returned (.bool (s.may ⟨set, a, b⟩ c)) ∧ Below w.heap.size w w' := by
  have n8 := hok.n8
  have b20 := hok.b20
  have hb0 := ext_alloc w (.cells (shC s p).toArray 26)
  have hS := Blk.new w 26 (shC s p)
  have h0 := h.ext hb0
  have Hok := Lib.hid hok
  have Hset := Lib.hid hset
  have hkw : IntKind.u16.wrap (set : Int) = set := by rw [IntKind.wrap_u16]; omega
  have HE := Lib.hid (Sh.early_iff (s := s) (i := c) (set := set))
  have HM := Lib.hid (Sh.may_eq (s := s) set a b c)
  have C1 := Lib.hid (fun W => has_any set c W hset (by omega))
  have C2 := Lib.hid (fun W h => RChange_any s p a c W h hok ha hc)
  have C3 := Lib.hid (fun W h => RTired_any s p a c 0 W h hok ha hc (by omega))
  have C4 := Lib.hid (fun W h => RTired_any s p b c 1 W h hok hb hc (by omega))
  rw [show decide (c < 16) = true by simp; omega, Bool.true_and] at C1
  have hcmb := hok.chM a c
  generalize s.may ⟨set, a, b⟩ c = res at *
  generalize hbit : set.testBit c = bit at *
  generalize hcm : s.chM a c = cm at *
  generalize s.chC a c = cc at *
  generalize ht1 : s.tired a c 0 = t1 at *
  generalize ht2 : s.tired b c 1 = t2 at *
  clear h hok hset hbit hcm ht1 ht2
  unfold shV at *
  unfold shC at *
  go_enter Tryz.func31, Tryz.ntmps31
  go_upto_region 1 with fail
  change Blk (w.alloc (.cells #[.slice p.A s.acts.length p.cA, .slice p.R s.rest.length p.cR, .slice p.I s.ins.length p.cI, .slice p.O s.outs.length p.cO, .int .i64 s.cover, .int .i64 s.dull, .slice p.B s.before.length p.cB] 26)) _ _ _ at hS
  generalize w.alloc (.cells #[.slice p.A s.acts.length p.cA, .slice p.R s.rest.length p.cR, .slice p.I s.ins.length p.cI, .slice p.O s.outs.length p.cO, .int .i64 s.cover, .int .i64 s.dull, .slice p.B s.before.length p.cB] 26) = W0 at *
  cases bit
  rotate_left
  · have HR : Hid (res = false) := Lib.hid (by rw [HM.out]; simp)
    go_wp2_with fail
    refine (C1.out _).mono ?_; rintro e W1 ⟨rfl, rfl⟩
    go_wp2
    go_ret
    exact ⟨ret_congr (bool_congr HR.out.symm), hb0⟩
  go_wp2_with fail
  refine (C1.out _).mono ?_; rintro e W1 ⟨rfl, rfl⟩
  clear C1 hkw
  go_upto_region 3 with fail
  have x0 : W0.cell? ⟨w.heap.size, 0, none⟩ = _ := hS.cell (i := 0) rfl
  have x1 : W0.cell? ⟨w.heap.size, 1, none⟩ = _ := hS.cell (i := 1) rfl
  have x2 : W0.cell? ⟨w.heap.size, 2, none⟩ = _ := hS.cell (i := 2) rfl
  have x3 : W0.cell? ⟨w.heap.size, 3, none⟩ = _ := hS.cell (i := 3) rfl
  have x4 : W0.cell? ⟨w.heap.size, 4, none⟩ = _ := hS.cell (i := 4) rfl
  have x5 : W0.cell? ⟨w.heap.size, 5, none⟩ = _ := hS.cell (i := 5) rfl
  have x6 : W0.cell? ⟨w.heap.size, 6, none⟩ = _ := hS.cell (i := 6) rfl
  go_wp2_with fail
  refine (C2.out _ h0).mono ?_; rintro e W1 ⟨rfl, hb1⟩
  have hS1 := hS.ext hb1
  have hbw1 := ext_trans hb0 hb1
  have Hm1 := Lib.hid (h0.ext hb1)
  clear hS hb0 hb1 h0 C2 x0 x1 x2 x3 x4 x5 x6
  go_upto_region 4 with fail
  have HMB := Lib.hid (show res = (!(decide (s.cover < cm) || t1 || (decide (b ≠ a) && t2)) && !s.early c set) from by
    rw [HM.out]
    by_cases h1 : s.cover < cm
    · simp [h1]
    · by_cases h2 : b = a <;> cases t1 <;> cases t2 <;> simp [h1, h2])
  clear HM
  go_cut [45] (fun z Wc => z = .bool (decide (s.cover < cm) || t1 || (decide (b ≠ a) && t2)) ∧ Below W1.heap.size W1 Wc)
  case first =>
    have x0 : W1.cell? ⟨w.heap.size, 0, none⟩ = _ := hS1.cell (i := 0) rfl
    have x1 : W1.cell? ⟨w.heap.size, 1, none⟩ = _ := hS1.cell (i := 1) rfl
    have x2 : W1.cell? ⟨w.heap.size, 2, none⟩ = _ := hS1.cell (i := 2) rfl
    have x3 : W1.cell? ⟨w.heap.size, 3, none⟩ = _ := hS1.cell (i := 3) rfl
    have x4 : W1.cell? ⟨w.heap.size, 4, none⟩ = _ := hS1.cell (i := 4) rfl
    have x5 : W1.cell? ⟨w.heap.size, 5, none⟩ = _ := hS1.cell (i := 5) rfl
    have x6 : W1.cell? ⟨w.heap.size, 6, none⟩ = _ := hS1.cell (i := 6) rfl
    by_cases hcv : s.cover < cm
    · have hcv' : cm > s.cover := hcv
      have hd : decide (s.cover < cm) = true := by simp [hcv]
      have HD := Lib.hid hd
      clear hd hcv
      go_wp2
      go_meet
      case rel => exact ⟨by rw [HD.out]; simp, Below.refl _ _⟩
    have hcv' : ¬ cm > s.cover := hcv
    have hd : decide (s.cover < cm) = false := by simp; omega
    have HD := Lib.hid hd
    clear hcv hd
    go_wp2_with fail
    refine (C3.out _ Hm1.out).mono ?_; rintro e W2 ⟨rfl, hb2⟩
    have hS2 := hS1.ext hb2
    have Hm2 := Lib.hid (Hm1.out.ext hb2)
    clear hS1 Hm1 C3 hcv' x0 x1 x2 x3 x4 x5 x6
    cases t1
    rotate_left
    · go_wp2
      go_meet
      case rel => exact ⟨by rw [HD.out]; simp, hb2⟩
    have x0 : W2.cell? ⟨w.heap.size, 0, none⟩ = _ := hS2.cell (i := 0) rfl
    have x1 : W2.cell? ⟨w.heap.size, 1, none⟩ = _ := hS2.cell (i := 1) rfl
    have x2 : W2.cell? ⟨w.heap.size, 2, none⟩ = _ := hS2.cell (i := 2) rfl
    have x3 : W2.cell? ⟨w.heap.size, 3, none⟩ = _ := hS2.cell (i := 3) rfl
    have x4 : W2.cell? ⟨w.heap.size, 4, none⟩ = _ := hS2.cell (i := 4) rfl
    have x5 : W2.cell? ⟨w.heap.size, 5, none⟩ = _ := hS2.cell (i := 5) rfl
    have x6 : W2.cell? ⟨w.heap.size, 6, none⟩ = _ := hS2.cell (i := 6) rfl
    by_cases hba : b = a
    · have hne : ((b : Int) != (a : Int)) = false := by simp [hba]
      have hd : decide (b ≠ a) = false := by simp [hba]
      have HD2 := Lib.hid hd
      clear hba hd
      go_wp2
      go_meet
      case rel => exact ⟨by rw [HD.out, HD2.out]; simp, hb2⟩
    · have hne : ((b : Int) != (a : Int)) = true := by simp; omega
      have hd : decide (b ≠ a) = true := by simp [hba]
      have HD2 := Lib.hid hd
      clear hba hd
      go_wp2_with fail
      refine (C4.out _ Hm2.out).mono ?_; rintro e W3 ⟨rfl, hb3⟩
      clear C4 x0 x1 x2 x3 x4 x5 x6
      go_wp2
      go_meet
      case rel => exact ⟨by rw [HD.out, HD2.out]; simp, ext_trans hb2 hb3⟩
  case rest =>
    obtain ⟨rfl, hbc⟩ := hcut
    generalize (decide (s.cover < cm) || t1 || (decide (b ≠ a) && t2)) = bad at *
    cases bad
    rotate_left
    · have HR : Hid (res = false) := Lib.hid (by rw [HMB.out]; rfl)
      go_wp2
      go_ret
      exact ⟨ret_congr (bool_congr HR.out.symm), ext_trans hbw1 hbc⟩
    have HR : Hid (res = !s.early c set) := Lib.hid (by rw [HMB.out]; rfl)
    clear HMB
    have hSc := hS1.ext hbc
    have hbw := ext_trans hbw1 hbc
    have hmc := Hm1.out.ext hbc
    clear hS1 hbc hbw1 Hm1 C3 C4
    have hkw : IntKind.u16.wrap (set : Int) = set := by have := Hset.out; rw [IntKind.wrap_u16]; omega
    have Ht := Lib.hid (fun q (hq : q < s.before.length) (h1 : s.before[q].2 = (c : Int)) (h2 : set.testBit s.before[q].1.toNat = false) => show res = false by rw [HR.out, HE.out.2 ⟨q, hq, h1, h2⟩]; rfl)
    have Hf := Lib.hid (fun (hx : ∀ q (hq : q < s.before.length), s.before[q].2 = (c : Int) → set.testBit s.before[q].1.toNat = true) => show res = true by
      rw [HR.out]
      cases he : s.early c set
      · rfl
      · obtain ⟨q, hq, h1, h2⟩ := HE.out.1 he
        rw [hx q hq h1] at h2; cases h2)
    clear HR HE
    go_upto_block 0 with fail
    go_wp2
    go_loopw [13] (fun t wr => ∃ q : Nat, t = .int .i64 q ∧ q ≤ s.before.length ∧ Hid (∀ j (hj : j < s.before.length), j < q → s.before[j].2 = (c : Int) → set.testBit s.before[j].1.toNat = true) ∧ wr = wc) (fun t _ => s.before.length - (intOf t).toNat)
    case atStart => exact ⟨0, rfl, by omega, Lib.hid (by intro j _ hj; omega), rfl⟩
    case round =>
      obtain ⟨q, rfl, hq, Hno, rfl⟩ := hrel
      have x6 : wr.cell? ⟨w.heap.size, 6, none⟩ = _ := hSc.cell (i := 6) rfl
      by_cases hlt : q < s.before.length
      rotate_left
      · obtain rfl : q = s.before.length := by omega
        have HF := Lib.hid (Hf.out (fun j hj => Hno.out j hj hj))
        go_wp2
        go_ret
        exact ⟨ret_congr (bool_congr HF.out.symm), hbw⟩
      have hlt' : (q : Int) < (s.before.length : Int) := by omega
      have hq0 : (0 : Int) ≤ (q : Int) := by omega
      obtain ⟨bp, op, hB, -, cp0, cp1⟩ := hmc.before.at2 hlt rfl
      rw [hB] at x6
      have hpb := Hok.out.before _ (List.getElem_mem hlt)
      unfold Sh.pairB at hpb
      simp only [Bool.and_eq_true, btw_iff] at hpb
      obtain ⟨P, hP⟩ : ∃ P : Nat, s.before[q].1 = P := ⟨s.before[q].1.toNat, by omega⟩
      have hP8 : P ≤ 8 := by omega
      have Hti := Lib.hid (Ht.out q hlt)
      have Hfi := Lib.hid (show (s.before[q].2 = (c : Int) → set.testBit s.before[q].1.toNat = true) → ∀ j (hj : j < s.before.length), j < q + 1 → s.before[j].2 = (c : Int) → set.testBit s.before[j].1.toNat = true from fun hx j hj hjq => by
        rcases Nat.lt_or_ge j q with h1 | h1
        · exact Hno.out j hj h1
        · obtain rfl : j = q := by omega
          exact hx)
      rw [hP] at Hti Hfi cp0
      rw [Int.toNat_natCast] at Hti Hfi
      have CH := Lib.hid (has_any set P wr Hset.out (by omega))
      rw [show decide (P < 16) = true by simp; omega, Bool.true_and] at CH
      generalize hfb : s.before[q].2 = fb at *
      have Hfb := Lib.hid hfb
      clear hfb hB hpb hP
      by_cases heq : fb = (c : Int)
      rotate_left
      · have hne : (fb == (c : Int)) = false := by simp [heq]
        have HN := Lib.hid (Hfi.out (fun h => absurd h heq))
        have Heq := Lib.hid heq
        clear heq
        go_wp2
        go_roundw
        case rel => exact ⟨q + 1, by go_num, by omega, HN, by first | rfl | trivial⟩
        case measure => simp [intOf]; omega
      have hne : (fb == (c : Int)) = true := by simp [heq]
      have Hti2 := Lib.hid (Hti.out heq)
      have Hfi2 := Lib.hid (fun hx => Hfi.out (fun _ => hx))
      have Heq := Lib.hid heq
      clear heq Hti Hfi
      generalize set.testBit P = T at *
      cases T
      · have HR3 := Lib.hid (Hti2.out rfl)
        go_wp2_with fail
        refine CH.out.mono ?_; rintro e W3 ⟨rfl, rfl⟩
        go_wp2
        go_ret
        exact ⟨ret_congr (bool_congr HR3.out.symm), hbw⟩
      · have HN := Lib.hid (Hfi2.out rfl)
        go_wp2_with fail
        refine CH.out.mono ?_; rintro e W3 ⟨rfl, rfl⟩
        go_wp2
        go_roundw
        case rel => exact ⟨q + 1, by go_num, by omega, HN, by first | rfl | trivial⟩
        case measure => simp [intOf]; omega
/-- a table in memory, to be read -/
def TabA (W : World) (A : Option Addr) (T : List (List Int)) : Prop := ∃ rs : List RwV, rs.map RwV.r = T ∧ Cells W A 1 RwV.enc rs ∧ ∀ x ∈ rs, Cells W x.A 1 encI x.r
theorem TabA.ext {W W' : World} {A : Option Addr} {T : List (List Int)} (h : TabA W A T) (hb : Below W.heap.size W W') : TabA W' A T := by
  obtain ⟨rs, h1, h2, h3⟩ := h
  exact ⟨rs, h1, h2.ext hb, fun x hx => (h3 x hx).ext hb⟩
theorem TabA.row {W : World} {A : Option Addr} {T : List (List Int)} (h : TabA W A T) {t : Nat} (ht : t < T.length) : ∃ b off A' c', A = some ⟨b, off, none⟩ ∧ W.cell? ⟨b, off + t, none⟩ = some (.slice A' T[t].length c') ∧ Cells W A' 1 encI T[t] := by
  obtain ⟨rs, rfl, h2, h3⟩ := h
  have hk : t < rs.length := by simpa using ht
  obtain ⟨b, off, hA, -, c0⟩ := h2.at1 hk rfl
  refine ⟨b, off, rs[t].A, rs[t].c, hA, ?_, ?_⟩
  · simpa using c0
  · simpa using h3 _ (List.getElem_mem hk)
theorem tab_bd {n : Nat} {a b : Nat} (ha : a < n) (hb : b < n) : a * n + b < n * n := by
  have := Nat.mul_le_mul_right n (show a + 1 ≤ n by omega)
  rw [Nat.add_mul, Nat.one_mul] at this
  omega
theorem atT_eq {s : Sh} {T : List (List Int)} {x : St} (h1 : x.set < T.length) (h2 : x.last * s.acts.length + x.sec < T[x.set].length) : s.atT T x = T[x.set][x.last * s.acts.length + x.sec] := by
  unfold Sh.atT
  simp [h1, h2]
/-- the cell of a state -/
theorem TabA.at {s : Sh} {W : World} {A : Option Addr} {T : List (List Int)} (h : TabA W A T) {nn : Nat} (hnn : s.acts.length * s.acts.length = nn) (hr : ∀ t (ht : t < T.length), T[t].length = nn) {t a b : Nat} (ht : t < T.length) (ha : a < s.acts.length) (hb : b < s.acts.length) :
    ∃ b0 off b1 o1 c', A = some ⟨b0, off, none⟩ ∧ W.cell? ⟨b0, off + t, none⟩ = some (.slice (some ⟨b1, o1, none⟩) nn c') ∧ W.cell? ⟨b1, o1 + (a * s.acts.length + b), none⟩ = some (.int .i64 (s.atT T ⟨t, a, b⟩)) := by
  obtain ⟨b0, off, A', c', hA, c0, hc⟩ := h.row ht
  have hl := hr t ht
  have hi : a * s.acts.length + b < T[t].length := by rw [hl, ← hnn]; exact tab_bd ha hb
  obtain ⟨b1, o1, rfl, -, c1⟩ := hc.at1 hi rfl
  rw [hl] at c0
  refine ⟨b0, off, b1, o1, c', hA, c0, ?_⟩
  rw [c1, atT_eq (x := ⟨t, a, b⟩) ht hi]
theorem cell_bad1 {s : Sh} {T : List (List Int)} {x : St} (hr : Sh.real x = true) (h1 : x.set = s.whole) (h2 : s.atT T x ≠ 0) : s.cellB T x = false := by
  unfold Sh.cellB; rw [hr, decide_eq_true h1, decide_eq_true h2]; rfl
theorem cell_bad2 {s : Sh} {T : List (List Int)} {x : St} {c : Nat} (hr : Sh.real x = true) (hc : c < s.acts.length) (hm : s.may x c = true) (h : s.atT T x > s.chC x.last c + s.atT T (Sh.to x c)) : s.cellB T x = false := by
  unfold Sh.cellB
  rw [hr]
  have : ((s.fol x).any fun y => decide (s.atT T x > y.cost + s.atT T y.st)) = true := by
    rw [List.any_eq_true]
    exact ⟨s.nx x c, List.mem_map.2 ⟨c, List.mem_filter.2 ⟨by simpa using hc, hm⟩, rfl⟩, decide_eq_true h⟩
  rw [this]; simp
theorem cell_ok {s : Sh} {T : List (List Int)} {x : St} (h1 : x.set = s.whole → s.atT T x = 0) (h2 : ∀ c, c < s.acts.length → s.may x c = true → s.atT T x ≤ s.chC x.last c + s.atT T (Sh.to x c)) : s.cellB T x = true := by
  unfold Sh.cellB
  cases hr : Sh.real x
  · rfl
  have e1 : ((s.fol x).any fun y => decide (s.atT T x > y.cost + s.atT T y.st)) = false := by
    rw [List.any_eq_false]
    intro y hy
    obtain ⟨c, hc, hm, rfl⟩ := Sh.fol_mem hy
    have := h2 c hc hm
    simp only [decide_eq_true_eq]
    show ¬ s.atT T x > s.chC x.last c + s.atT T (Sh.to x c)
    omega
  have e2 : (decide (x.set = s.whole) && decide (s.atT T x ≠ 0)) = false := by
    by_cases h : x.set = s.whole
    · rw [h1 h]; simp
    · simp [h]
  rw [e1, e2]; rfl
theorem cell_unreal {s : Sh} {T : List (List Int)} {x : St} (h : Sh.real x = false) : s.cellB T x = true := by unfold Sh.cellB; rw [h]; rfl
theorem cells_bad {s : Sh} {T : List (List Int)} {t a b : Nat} (ht : t < s.whole + 1) (ha : a < s.acts.length) (hb : b < s.acts.length) (h : s.cellB T ⟨t, a, b⟩ = false) : s.rightT T = false := by
  unfold Sh.rightT
  cases hc : s.cellsB T
  · simp
  · unfold Sh.cellsB at hc
    simp only [List.all_eq_true, List.mem_range] at hc
    rw [hc t ht a ha b hb] at h; cases h
theorem cells_good {s : Sh} {T : List (List Int)} (h : ∀ t, t < s.whole + 1 → ∀ a, a < s.acts.length → ∀ b, b < s.acts.length → s.cellB T ⟨t, a, b⟩ = true) : s.cellsB T = true := by
  unfold Sh.cellsB
  simp only [List.all_eq_true, List.mem_range]
  exact h
theorem shape_good {s : Sh} {T : List (List Int)} (h1 : T.length = s.whole + 1) (h2 : ∀ t (ht : t < T.length), T[t].length = s.acts.length * s.acts.length ∧ ∀ i (hi : i < T[t].length), 0 ≤ T[t][i] ∧ T[t][i] ≤ 1000000) : s.shapeB T = true := by
  unfold Sh.shapeB
  rw [Bool.and_eq_true, decide_eq_true_eq, List.all_eq_true]
  refine ⟨h1, fun r hr => ?_⟩
  obtain ⟨t, ht, rfl⟩ := List.mem_iff_getElem.1 hr
  obtain ⟨h3, h4⟩ := h2 t ht
  rw [Bool.and_eq_true, decide_eq_true_eq, List.all_eq_true]
  refine ⟨h3, fun k hk => ?_⟩
  obtain ⟨i, hi, rfl⟩ := List.mem_iff_getElem.1 hk
  exact btw_iff.2 (h4 i hi)
theorem shape_bad {s : Sh} {T : List (List Int)} (h : s.shapeB T = true) : T.length = s.whole + 1 ∧ ∀ t (ht : t < T.length), T[t].length = s.acts.length * s.acts.length ∧ ∀ i (hi : i < T[t].length), 0 ≤ T[t][i] ∧ T[t][i] ≤ 1000000 := by
  unfold Sh.shapeB at h
  rw [Bool.and_eq_true, decide_eq_true_eq, List.all_eq_true] at h
  refine ⟨h.1, fun t ht => ?_⟩
  have h2 := h.2 _ (List.getElem_mem ht)
  rw [Bool.and_eq_true, decide_eq_true_eq, List.all_eq_true] at h2
  exact ⟨h2.1, fun i hi => btw_iff.1 (h2.2 _ (List.getElem_mem hi))⟩
theorem pow64 {a : Nat} (ha : a < 16) : wrap64 ((2 : Int) ^ a) = ((2 ^ a : Nat) : Int) := by
  have h : a = 0 ∨ a = 1 ∨ a = 2 ∨ a = 3 ∨ a = 4 ∨ a = 5 ∨ a = 6 ∨ a = 7 ∨ a = 8 ∨ a = 9 ∨ a = 10 ∨ a = 11 ∨ a = 12 ∨ a = 13 ∨ a = 14 ∨ a = 15 := by omega
  rcases h with rfl | rfl | rfl | rfl | rfl | rfl | rfl | rfl | rfl | rfl | rfl | rfl | rfl | rfl | rfl | rfl <;> (unfold wrap64; decide)
theorem int_beq (x y : Nat) : ((x : Int) == (y : Int)) = decide (x = y) := by rw [Bool.eq_iff_iff]; simp; omega
theorem pow_le8 {a : Nat} (ha : a ≤ 8) : 2 ^ a ≤ 256 := by
  have := Nat.pow_le_pow_right (show 0 < 2 by omega) ha
  omega
theorem mul64 {a n x : Nat} (ha : a ≤ 8) (hn : n ≤ 8) (hx : a * n = x) : wrap64 ((a : Int) * (n : Int)) = (x : Int) ∧ x ≤ 64 := by
  have := Nat.mul_le_mul ha hn
  have e : ((a : Int) * (n : Int)) = (x : Int) := by rw [← hx]; simp
  rw [e]
  exact ⟨by unfold wrap64; omega, by omega⟩
theorem add_or : ∀ set, set < 256 → ∀ c, c < 8 → set.testBit c = false → set + 2 ^ c = set ||| 2 ^ c := by decide +kernel
end Go.Proofs.YtcnidhcdkbfpcaaGreat

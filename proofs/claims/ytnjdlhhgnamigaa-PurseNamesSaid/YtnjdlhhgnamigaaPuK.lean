/- Openers: ints and policies; claims through the law. -/
import Derived.DeepKeys4
import Derived.Maps.Keyed
import Derived.Laws.StructEq
import Derived.Deep.DeepCutAuto
import Derived.Carry
import Derived.Sort.CutIn
import Derived.WalkLawsBesides
import Derived.Maps.RangeWalk
import Derived.WalkKit
import Derived.ProofKit
import Derived.OpenShut
import Derived.ChangeOld
import Derived.Below
import Derived.Lib.SmallJoins
import Derived.Deep.Slices
import Derived.Deep.Fields
import Derived.ChangeSame
import Derived.Test.YtnjdlhhgnamigaaAwC
import Derived.Test.YtnjdlhhgnamigaaClmB
import Derived.Test.YtnjdlhhgnamigaaRows
/- The law of claims: what a policy pays. -/
namespace Go.Proofs.Ytnjdlhhgnamigaa
open Go.RowKit Go.Bs Go.Pu Go.Pl Go.Sort
set_option maxRecDepth 100000 in
set_option maxHeartbeats 4000000 in
theorem claims_law (p : Pol) (A : Option Addr) (n c : Nat) (l : List Int) (w : World) (hn : l.length = n) (hd : Cells w A 1 encI l) :
    Calls Try.prog 4 #[Pol.val p, .slice A n c] w fun e w' => e = .returned (.bool true) ∧ Below w.heap.size w w' := by
  have hb0 := ext_alloc w (.cells #[.int .i64 p.least, .int .i64 p.part, .int .i64 p.most] 43)
  have hB0 := Blk.new w 43 [.int .i64 p.least, .int .i64 p.part, .int .i64 p.most]
  have hd0 := hd.ext hb0
  have CP := Lib.hid (fun W => Policy_any p W)
  have CC := Lib.hid (fun B n c hn hm W hB => Claims_any p B n c l W hn hm hB)
  have CR := Lib.hid (fun W => RightPolicy_any p W)
  have CQ := Lib.hid (fun B n c hn hm W hB h1 h2 => ClaimsR_any p B n c l W hn hm hB h1 h2)
  generalize hres : claimsR p l = res at *
  have Hres := Lib.hid hres
  clear hres hd
  obtain ⟨ps, er⟩ := res
  simp only at CC
  unfold Pol.val at *
  go_enter Try.func4, Try.ntmps4
  go_upto_region 1 with fail
  change Blk (w.alloc (.cells #[.int .i64 p.least, .int .i64 p.part, .int .i64 p.most] 43)) _ _ _ at hB0
  generalize w.alloc (.cells #[.int .i64 p.least, .int .i64 p.part, .int .i64 p.most] 43) = W0 at *
  by_cases h60 : 60 < n
  · have h60' : (60 : Int) < n := by omega
    go_wp2_with fail
    refine (awake_any _).mono ?_; rintro e wz ⟨rfl, hbz⟩
    go_wp2
    go_ret
    exact ⟨rfl, ext_trans hb0 hbz⟩
  have h60' : ¬ (60 : Int) < n := by omega
  have b0 : W0.cell? ⟨w.heap.size, 0, none⟩ = _ := hB0.cell (i := 0) rfl
  have b1 : W0.cell? ⟨w.heap.size, 1, none⟩ = _ := hB0.cell (i := 1) rfl
  have b2 : W0.cell? ⟨w.heap.size, 2, none⟩ = _ := hB0.cell (i := 2) rfl
  go_wp2_with fail
  refine (CP.out _).mono ?_; rintro e W1 ⟨rfl, hb1⟩
  have hbw1 := ext_trans hb0 hb1
  have hB1 := hB0.ext hb1
  have hd1 := hd0.ext hb1
  clear hb0 hb1 hB0 hd0 CP b0 b1 b2
  go_wp2_with fail
  refine (list_any A n c l W1 hn (by omega) hd1).mono ?_; rintro e W2 ⟨v2, rfl, ⟨A2, c2, rfl, -, -, f2, -⟩, hb2⟩
  have hbw2 := ext_trans hbw1 hb2
  have hB2 := hB1.ext hb2
  have hd2 := hd1.ext hb2
  clear hbw1 hb2 hB1 hd1
  go_wp2_with fail
  refine (CC.out A2 n c2 hn (by omega) W2 f2).mono ?_; rintro e W3 ⟨v3, rfl, ⟨A3, c3, rfl, -, -, f3, -⟩, hb3⟩
  have hbw3 := ext_trans hbw2 hb3
  have hB3 := hB2.ext hb3
  have hd3 := hd2.ext hb3
  clear hbw2 hb3 hB2 hd2 CC f2
  have b0 : W3.cell? ⟨w.heap.size, 0, none⟩ = _ := hB3.cell (i := 0) rfl
  have b1 : W3.cell? ⟨w.heap.size, 1, none⟩ = _ := hB3.cell (i := 1) rfl
  have b2 : W3.cell? ⟨w.heap.size, 2, none⟩ = _ := hB3.cell (i := 2) rfl
  go_wp2_with fail
  refine (CR.out _).mono ?_; rintro e W4 ⟨rfl, hb4⟩
  have hbw4 := ext_trans hbw3 hb4
  have hB4 := hB3.ext hb4
  have hd4 := hd3.ext hb4
  have f4 := f3.ext hb4
  clear hbw3 hb4 hB3 hd3 CR f3 b0 b1 b2
  cases hok : p.okB
  · have hr : (ps, er) = ([], 1) := by rw [← Hres.out]; simp [claimsR, hok]
    obtain ⟨rfl, rfl⟩ := Prod.mk.injEq .. ▸ hr
    clear hr
    simp only [List.length_nil]
    go_wp2_with fail
    refine (awake_any _).mono ?_; rintro e wz ⟨rfl, hbz⟩
    go_wp2
    go_ret
    exact ⟨rfl, ext_trans hbw4 hbz⟩
  by_cases h50 : 50 < n
  · have h50' : (50 : Int) < n := by omega
    have hr : (ps, er) = ([], 3) := by rw [← Hres.out]; simp [claimsR, hok, hn, h50]
    obtain ⟨rfl, rfl⟩ := Prod.mk.injEq .. ▸ hr
    clear hr
    simp only [List.length_nil]
    go_wp2_with fail
    refine (awake_any _).mono ?_; rintro e wz ⟨rfl, hbz⟩
    go_wp2
    go_ret
    exact ⟨rfl, ext_trans hbw4 hbz⟩
  have h50' : ¬ (50 : Int) < n := by omega
  go_wp2_with fail
  refine (Losses_any A n c l W4 hn (by omega) hd4).mono ?_; rintro e W5 ⟨rfl, hb5⟩
  have hbw5 := ext_trans hbw4 hb5
  have hB5 := hB4.ext hb5
  have hd5 := hd4.ext hb5
  have f5 := f4.ext hb5
  clear hbw4 hb5 hB4 hd4 f4
  cases hlo : lossB l
  · have hr : (ps, er) = ([], 2) := by rw [← Hres.out]; simp [claimsR, hok, hn, h50, hlo]
    obtain ⟨rfl, rfl⟩ := Prod.mk.injEq .. ▸ hr
    clear hr
    simp only [List.length_nil]
    go_wp2_with fail
    refine (awake_any _).mono ?_; rintro e wz ⟨rfl, hbz⟩
    go_wp2
    go_ret
    exact ⟨rfl, ext_trans hbw5 hbz⟩
  have hr : (ps, er) = (p.pays p.most l, 0) := by rw [← Hres.out]; simp [claimsR, hok, hn, h50, hlo]
  obtain ⟨h1, rfl⟩ := Prod.mk.injEq .. ▸ hr
  have hpl : ps.length ≤ 1000 := by rw [h1, pays_len, hn]; omega
  have CQ1 := Lib.hid (CQ.out A n c hn (by omega) W5 hd5 hok hlo)
  rw [← h1] at CQ1
  clear hr h1 CQ
  have b0 : W5.cell? ⟨w.heap.size, 0, none⟩ = _ := hB5.cell (i := 0) rfl
  have b1 : W5.cell? ⟨w.heap.size, 1, none⟩ = _ := hB5.cell (i := 1) rfl
  have b2 : W5.cell? ⟨w.heap.size, 2, none⟩ = _ := hB5.cell (i := 2) rfl
  go_wp2_with fail
  refine CQ1.out.mono ?_; rintro e W6 ⟨v6, rfl, ⟨A6, c6, rfl, -, -, f6, -⟩, hb6⟩
  have hbw6 := ext_trans hbw5 hb6
  have f56 := f5.ext hb6
  clear b0 b1 b2 CQ1 hbw5 hb6
  have CI := Lib.hid (ints_any A3 A6 ps.length ps.length c3 c6 ps ps W6 rfl rfl (by omega) (by omega) f56 f6)
  rw [decide_eq_true (rfl : ps = ps)] at CI
  go_wp2_with fail
  refine CI.out.mono ?_; rintro e W7 ⟨rfl, hb7⟩
  have hbw7 := ext_trans hbw6 hb7
  clear CI hbw6 hb7
  go_wp2_with fail
  refine (awake_any _).mono ?_; rintro e wz ⟨rfl, hbz⟩
  go_wp2
  go_ret
  exact ⟨rfl, ext_trans hbw7 hbz⟩
end Go.Proofs.Ytnjdlhhgnamigaa

/- Arguments opened to data: slices of numbers, policies. -/
namespace Go.Proofs.Ytnjdlhhgnamigaa
open Go.ChangeShapes Go.WideShapes Go.ChangeAt Go.RowKit Go.Joins Go.Bs Go.Deep Go.Pu
theorem ownK : ownKnob Try.prog.godebug = none := by kernel_rfl
theorem laidK : laidOutB Try.prog = true := by kernel_rfl
set_option maxRecDepth 100000 in
theorem ints_in {H : Type} {enc : TypeId × Value → H} {w : World} {base fuel : Nat} {spare : Nat → Bool} {held : Bool} {v : Value} {x : DataW H × List MemPlace} (h : DataW.trod enc Try.prog w base spare held fuel 27 [v] = some x) :
    ∃ A n c l, v = .slice A n c ∧ l.length = n ∧ n ≤ c ∧ c ≤ maxLen ∧ Cells w A 1 encI l := by
  rcases open_ints Try.underlying27 Try.underlying3 (by kernel_rfl) h with ⟨hcs, _⟩ | ⟨a, l, c, zs, hcs, _, hl, hm, hz, _, hcell, hwz⟩
  · simp only [List.cons.injEq, and_true] at hcs
    exact ⟨none, 0, 0, [], hcs, rfl, Nat.le_refl _, by unfold maxLen; omega, Cells.nil⟩
  · simp only [List.cons.injEq, and_true] at hcs
    have hlz : l ≤ zs.length := by rw [hz]; split <;> omega
    refine ⟨some a, l, c, zs.take l, hcs, by simp; omega, hl, hm, fun i y hi => ?_⟩
    have hil : i < l := by
      have := (List.getElem?_eq_some_iff.1 hi).1
      simp at this; omega
    have hc := hcell i (by omega)
    obtain ⟨b, off, spot⟩ := a
    have hspot : spot = none := by
      simpa [Addr.add] using World.cell?_spot (hcell 0 (by omega))
    subst hspot
    refine ⟨b, off, rfl, fun j u hj => ?_⟩
    rcases j with _ | j
    · simp only [encI, List.getElem?_cons_zero, Option.some.injEq] at hj
      subst hj
      have hy : zs.getD i 0 = y := by
        rw [List.getElem?_take] at hi
        rw [if_pos hil] at hi
        simp [hi]
      rw [hy] at hc
      have h2 : (⟨b, off, none⟩ : Addr).add i = ⟨b, off + i, none⟩ := by
        unfold Addr.add
        split
        · rename_i h0; subst h0; rfl
        · rfl
      rw [h2] at hc
      simpa using hc
    · simp [encI] at hj
section
variable {H : Type} {enc : TypeId × Value → H} {w : World} {base : Nat} {spare : Nat → Bool} {held : Bool} {b0 : Nat} {v : Value} {d : DataW H} {p : List MemPlace}
set_option maxRecDepth 100000 in
theorem ints_arg (hv : Value.okWide Try.prog w .any b0 27 v) (h : DataW.Trod enc Try.prog w base spare held 27 v d p) :
    ∃ A n c l, v = .slice A n c ∧ l.length = n ∧ n ≤ c ∧ n ≤ 9223372036854775807 ∧ Cells w A 1 encI l := by
  obtain ⟨A, n, c, rfl⟩ := okWide_slice Try.underlying27 hv
  obtain ⟨fuel, hf⟩ := h
  obtain ⟨A', n', c', l, e, hl, hlc, hcm, hc⟩ := ints_in hf
  cases e
  exact ⟨A, n, c, l, rfl, hl, hlc, by unfold maxLen at hcm; omega, hc⟩

set_option maxRecDepth 100000 in
theorem pol_in (hv : Value.okWide Try.prog w .any b0 43 v) (h : DataW.Trod enc Try.prog w base spare held 43 v d p) : ∃ y : Pol, v = Pol.val y := by
  obtain ⟨u0, u1, u2, y0, y1, y2, n0, rfl, -, -, hf0, hf1, hf2⟩ := open_agg3 Try.underlying43 (by kernel_rfl) (by kernel_rfl) hv h
  obtain ⟨a, hu0, -, -⟩ := DataW.trod_int Try.underlying3 hf0
  obtain ⟨b, hu1, -, -⟩ := DataW.trod_int Try.underlying3 hf1
  obtain ⟨c, hu2, -, -⟩ := DataW.trod_int Try.underlying3 hf2
  simp only [List.cons.injEq, and_true] at hu0 hu1 hu2
  subst hu0 hu1 hu2
  exact ⟨⟨a, b, c⟩, rfl⟩
end
end Go.Proofs.Ytnjdlhhgnamigaa

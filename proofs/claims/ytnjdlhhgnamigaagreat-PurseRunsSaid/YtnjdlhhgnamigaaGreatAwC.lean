/- Walk: awake(). -/
import Derived.Test.YtnjdlhhgnamigaaGreatLedR
import Derived.Test.YtnjdlhhgnamigaaGreatSetF
import Derived.Test.YtnjdlhhgnamigaaGreatTilC
import Derived.Test.YtnjdlhhgnamigaaGreatClmA
import Derived.Test.YtnjdlhhgnamigaaGreatTooA
/- Walk: the day and the week of the law that all else leans on. -/
namespace Go.Pu
def dayL : List Act := [⟨1, 1, 0, 0, 50, 0⟩, ⟨2, 0, 0, 0, 30, 0⟩, ⟨4, 0, 0, 7, 120, 120⟩, ⟨5, 0, 0, 9, 20, 0⟩, ⟨6, 0, 0, 0, 0, 0⟩, ⟨7, 0, 0, 0, 400, 0⟩]
def weekW : Wk := ⟨[⟨1000, 3, 2, 100⟩, ⟨301, 1, 3, 50⟩], 90, [⟨1, 500, 300⟩, ⟨0, 800, 0⟩]⟩
end Go.Pu
namespace Go.Proofs.YtnjdlhhgnamigaaGreat
open Go.RowKit Go.Bs Go.Pu Go.Pl Go.Sort
theorem blk_cells {α : Type} {w : World} {b T sz : Nat} {enc : α → List Value} {l : List α} (hen : ∀ x, (enc x).length = sz) (h : Blk w b T (l.flatMap enc)) : Cells w (some ⟨b, 0, none⟩) sz enc l := fun i x hi => ⟨b, 0, rfl, fun j y hj => by
  rw [Nat.zero_add]
  exact h.cell (flatMap_get hen l i j x y hi hj)⟩
theorem day_any (w : World) : Calls Tryz.prog 20 #[] w fun e w' => ∃ g, e = .returned (.slice (some ⟨g, 0, none⟩) 6 6) ∧ Cells w' (some ⟨g, 0, none⟩) 6 Act.enc dayL ∧ Below w.heap.size w w' := by
  go_enter Tryz.func20, Tryz.ntmps20
  go_wp2
  go_ret
  exact ⟨_, rfl, blk_cells act_len (Blk.new w 51 (dayL.flatMap Act.enc)), ext_alloc _ _⟩
theorem week_any (w : World) : Calls Tryz.prog 22 #[] w fun e w' => ∃ g1 g2, e = .returned (wkV (some ⟨g1, 0, none⟩) 2 2 weekW.premium (some ⟨g2, 0, none⟩) 2 2) ∧ Cells w' (some ⟨g1, 0, none⟩) 4 Cty.enc weekW.ctys ∧ Cells w' (some ⟨g2, 0, none⟩) 3 Ctr.enc weekW.ctrs ∧ Below w.heap.size w w' := by
  go_enter Tryz.func22, Tryz.ntmps22
  go_wp2
  have hR := ((Blk.new w 69 [.slice (some ⟨w.heap.size + 1, 0, none⟩) 2 2, .int .i64 90, .slice (some ⟨w.heap.size + 1 + 1, 0, none⟩) 2 2]).alloc (.cells (weekW.ctys.flatMap Cty.enc).toArray 95)).alloc (.cells (weekW.ctrs.flatMap Ctr.enc).toArray 103)
  have h1 := (Blk.new (w.alloc (.cells #[.slice (some ⟨w.heap.size + 1, 0, none⟩) 2 2, .int .i64 90, .slice (some ⟨w.heap.size + 1 + 1, 0, none⟩) 2 2] 69)) 95 (weekW.ctys.flatMap Cty.enc)).alloc (.cells (weekW.ctrs.flatMap Ctr.enc).toArray 103)
  have h2 := Blk.new ((w.alloc (.cells #[.slice (some ⟨w.heap.size + 1, 0, none⟩) 2 2, .int .i64 90, .slice (some ⟨w.heap.size + 1 + 1, 0, none⟩) 2 2] 69)).alloc (.cells (weekW.ctys.flatMap Cty.enc).toArray 95)) 103 (weekW.ctrs.flatMap Ctr.enc)
  simp only [World.size_alloc] at h1 h2
  have hb : Below w.heap.size w (((w.alloc (.cells #[.slice (some ⟨w.heap.size + 1, 0, none⟩) 2 2, .int .i64 90, .slice (some ⟨w.heap.size + 1 + 1, 0, none⟩) 2 2] 69)).alloc (.cells (weekW.ctys.flatMap Cty.enc).toArray 95)).alloc (.cells (weekW.ctrs.flatMap Ctr.enc).toArray 103)) := (((Below.refl _ _).alloc (Nat.le_refl _) _).alloc (by simp) _).alloc (by simp; omega) _
  change bodyPost Tryz.prog Tryz.f22 _ Exit.ret _ (((w.alloc (.cells #[.slice (some ⟨w.heap.size + 1, 0, none⟩) 2 2, .int .i64 90, .slice (some ⟨w.heap.size + 1 + 1, 0, none⟩) 2 2] 69)).alloc (.cells (weekW.ctys.flatMap Cty.enc).toArray 95)).alloc (.cells (weekW.ctrs.flatMap Ctr.enc).toArray 103))
  generalize (((w.alloc (.cells #[.slice (some ⟨w.heap.size + 1, 0, none⟩) 2 2, .int .i64 90, .slice (some ⟨w.heap.size + 1 + 1, 0, none⟩) 2 2] 69)).alloc (.cells (weekW.ctys.flatMap Cty.enc).toArray 95)).alloc (.cells (weekW.ctrs.flatMap Ctr.enc).toArray 103)) = W at *
  have o0 : W.cell? ⟨w.heap.size, 0, none⟩ = _ := hR.cell (i := 0) rfl
  have o1 : W.cell? ⟨w.heap.size, 1, none⟩ = _ := hR.cell (i := 1) rfl
  have o2 : W.cell? ⟨w.heap.size, 2, none⟩ = _ := hR.cell (i := 2) rfl
  refine bodyPost_ret (v := wkV (some ⟨w.heap.size + 1, 0, none⟩) 2 2 weekW.premium (some ⟨w.heap.size + 1 + 1, 0, none⟩) 2 2) (by simp [results, Tryz.results22, go_sem, o0, o1, o2, wkV, weekW]) rfl ?_
  exact ⟨_, _, rfl, blk_cells cty_len h1, blk_cells ctr_len h2, hb⟩
end Go.Proofs.YtnjdlhhgnamigaaGreat

/- Walk: the law that all else leans on. -/
namespace Go.Pu
open Go.Pl
def lb : Led := ⟨[100, 0], [], 500, 0, 600, 0, 0, []⟩
theorem begin_lb : beginL [100, 0] 500 = (lb, 0) := by decide +kernel
theorem change_ev : changeR ⟨[5, 4, 1], [1, 2, 3]⟩ 8 = ([0, 2, 0], 0) := by decide +kernel
theorem claims_ev : claimsR ⟨100, 800, 500⟩ [50, 300, 600] = ([0, 160, 340], 0) := by decide +kernel
theorem week_ok : weekW.okB = true := by decide +kernel
theorem week_g : weekW.settle.gross = [1500, 100] := by decide +kernel
theorem week_e : weekW.settle.extra = [16, 0] := by decide +kernel
theorem week_r : weekW.settle.rest = 39 := by decide +kernel
theorem run_2 : (runR lb dayL).2 = ([0, 0, 0, 0, 0, 0], 0) := by decide +kernel
theorem run_w : (runR lb dayL).1.windows = [10, 50] := by decide +kernel
theorem run_d : (runR lb dayL).1.diffs = [⟨0, 20, true⟩] := by decide +kernel
theorem run_o : (runR lb dayL).1.office = 150 := by decide +kernel
theorem run_k : (runR lb dayL).1.bank = 400 := by decide +kernel
end Go.Pu
namespace Go.Proofs.YtnjdlhhgnamigaaGreat
open Go.RowKit Go.Bs Go.Pu Go.Pl Go.Sort
theorem LedF.bel1 {a b c : World} {l : Led} {A : Option Addr} {n : Nat} {B : Option Addr} {m : Nat} {D : Option Addr} {q : Nat} {p : Nat} (h : LedF a b l A n B m D q) (hb : Dr.Bel [p] b c) (h1 : ∀ k, A.map (·.block) = some k → k ≠ p) (h2 : ∀ k, B.map (·.block) = some k → k ≠ p) (h3 : ∀ k, D.map (·.block) = some k → k ≠ p) : LedF a c l A n B m D q := by
  have hs := hb.size
  exact ⟨⟨h.m.hn, h.m.hm, h.m.hq, h.m.n9, h.m.m9, h.m.q9, cells_bel h.m.a hb (fun k hk hm => h1 k hk (by simpa using hm)), cells_bel h.m.b hb (fun k hk hm => h2 k hk (by simpa using hm)), cells_bel h.m.d hb (fun k hk hm => h3 k hk (by simpa using hm))⟩, fun k hk => by have := h.fa k hk; omega, fun k hk => by have := h.fb k hk; omega, fun k hk => by have := h.fd k hk; omega⟩
theorem bel_any {a b : World} {x : Nat} {M : Dr.Any.BSet} (h : Dr.Bel [x] a b) (hx : x ∈ M) : Dr.Any.Bel M a b := ⟨h.os, h.tape, h.output, h.size, fun k hk hm => h.block k hk (by simp; rintro rfl; exact hm hx)⟩
theorem ints_cells (l : List Int) (w : World) : Cells (w.alloc (.cells (l.map (Value.int .i64)).toArray 3)) (some ⟨w.heap.size, 0, none⟩) 1 encI l := by
  have : l.map (Value.int .i64) = l.flatMap encI := by induction l with | nil => rfl | cons a r ih => rw [List.map_cons, List.flatMap_cons, ih]; rfl
  rw [this]
  exact blk_cells encI_len (Blk.new w 3 _)
set_option maxRecDepth 100000 in
set_option maxHeartbeats 8000000 in
theorem awake_any (w : World) : Calls Tryz.prog 7 #[] w fun e w' => e = .returned (.bool true) ∧ Below w.heap.size w w' := by
  go_enter Tryz.func7, Tryz.ntmps7
  have C1 := Lib.hid (fun W A B hA hB => Change_any ⟨[5, 4, 1], [1, 2, 3]⟩ A B 3 3 3 3 8 W rfl rfl (by omega) (by omega) hA hB)
  have C2 := Lib.hid (fun W A hA => Begin_any [100, 0] A 2 2 500 W rfl (by omega) hA)
  rw [change_ev] at C1
  rw [begin_lb] at C2
  unfold tlV at C1
  have hb0 : Below w.heap.size w ((w.alloc (.cells (([5, 4, 1] : List Int).map (Value.int .i64)).toArray 3)).alloc (.cells (([1, 2, 3] : List Int).map (Value.int .i64)).toArray 3)) := ((Below.refl _ _).alloc (Nat.le_refl _) _).alloc (by simp) _
  have D1 := (ints_cells [5, 4, 1] w).alloc (.cells (([1, 2, 3] : List Int).map (Value.int .i64)).toArray 3)
  have D2 := ints_cells [1, 2, 3] (w.alloc (.cells (([5, 4, 1] : List Int).map (Value.int .i64)).toArray 3))
  simp only [World.size_alloc] at D2
  have C1' := Lib.hid (C1.out _ _ _ D1 D2)
  clear D1 D2 C1
  simp only [List.map_cons, List.map_nil] at C1' hb0
  go_wp2_with fail
  generalize (w.alloc (.cells #[.int .i64 5, .int .i64 4, .int .i64 1] 3)).alloc (.cells #[.int .i64 1, .int .i64 2, .int .i64 3] 3) = W0 at *
  refine C1'.out.mono ?_; rintro r W1 ⟨v1, rfl, ⟨A1, c1, rfl, -, -, cc1, ha1⟩, hb1⟩
  have hbw1 := ext_trans hb0 hb1
  clear C1' hb0 hb1
  have D2 := ints_cells [100, 0] W1
  have C2' := Lib.hid (C2.out _ _ D2)
  clear D2 C2
  simp only [List.map_cons, List.map_nil] at C2' cc1
  go_upto_region 2 with fail
  go_wp2_with fail
  refine C2'.out.mono ?_; rintro r W2 ⟨v2, rfl, ⟨A2, n2, c2, B2, m2, d2, D2, q2, e2, rfl, L2⟩, hb2⟩
  have hb2' := ext_trans (ext_alloc W1 (.cells #[.int .i64 100, .int .i64 0] 3)) hb2
  have hbw2 := ext_trans hbw1 hb2'
  have hs12 := hb2'.size
  have cc2 := cc1.ext hb2'
  clear C2' hb2 hb2' hbw1 cc1
  unfold ledV
  have hA1' : ∀ k, A1.map (·.block) = some k → k < W2.heap.size := fun k hk => Nat.lt_of_lt_of_le (ha1 k hk).2 hs12
  have hBX := Blk.new W2 34 [.slice A2 n2 c2, .slice B2 m2 d2, .int .i64 lb.office, .int .i64 lb.bank, .int .i64 lb.begun, .int .i64 lb.inn, .int .i64 lb.out, .slice D2 q2 e2]
  have hLX := L2.ext (ext_alloc W2 (.cells #[.slice A2 n2 c2, .slice B2 m2 d2, .int .i64 lb.office, .int .i64 lb.bank, .int .i64 lb.begun, .int .i64 lb.inn, .int .i64 lb.out, .slice D2 q2 e2] 34))
  have hcX := cc2.alloc (.cells #[.slice A2 n2 c2, .slice B2 m2 d2, .int .i64 lb.office, .int .i64 lb.bank, .int .i64 lb.begun, .int .i64 lb.inn, .int .i64 lb.out, .slice D2 q2 e2] 34)
  have hbX := hbw2.trans ((ext_alloc W2 (.cells #[.slice A2 n2 c2, .slice B2 m2 d2, .int .i64 lb.office, .int .i64 lb.bank, .int .i64 lb.begun, .int .i64 lb.inn, .int .i64 lb.out, .slice D2 q2 e2] 34)).mono hbw2.size)
  go_upto_region 3 with fail
  rename_i K3 hK3
  change Blk (W2.alloc (.cells #[.slice A2 n2 c2, .slice B2 m2 d2, .int .i64 lb.office, .int .i64 lb.bank, .int .i64 lb.begun, .int .i64 lb.inn, .int .i64 lb.out, .slice D2 q2 e2] 34)) _ _ _ at hBX
  generalize W2.alloc (.cells #[.slice A2 n2 c2, .slice B2 m2 d2, .int .i64 lb.office, .int .i64 lb.bank, .int .i64 lb.begun, .int .i64 lb.inn, .int .i64 lb.out, .slice D2 q2 e2] 34) = W3 at *
  clear L2 cc2 hbw2
  have hru2 := run_2
  have hruw := run_w
  have hrud := run_d
  have hruo := run_o
  have hruk := run_k
  have CR := Lib.hid (fun W g hZ hL => Run_any lb A2 n2 c2 B2 m2 d2 D2 q2 e2 W hL dayL (some ⟨g, 0, none⟩) 6 6 rfl (by omega) hZ)
  have CD := Lib.hid day_any
  unfold ledV at CR
  generalize hrr : runR lb dayL = rr at *
  clear hrr
  obtain ⟨lr, es, ee⟩ := rr
  simp only at hru2 hruw hrud hruo hruk CR
  cases hru2
  have Hru := Lib.hid (And.intro hruw (And.intro hrud (And.intro hruo hruk)))
  clear hruw hrud hruo hruk
  have tail : ∀ (P5 g : Nat) (A3 : Option Addr) (n3 c3 : Nat) (B3 : Option Addr) (m3 d3 : Nat) (D3 : Option Addr) (q3 e3 : Nat) (Au : Option Addr) (cu : Nat) (W : World), Blk W P5 34 [.slice A3 n3 c3, .slice B3 m3 d3, .int .i64 lr.office, .int .i64 lr.bank, .int .i64 lr.begun, .int .i64 lr.inn, .int .i64 lr.out, .slice D3 q3 e3] → LedM W lr A3 n3 B3 m3 D3 q3 → Cells W A1 1 encI [0, 2, 0] → Below w.heap.size w W →
      K3 { tmps := #[.bool false, .slice A1 3 c1, .int .i64 0, .pointer (some ⟨W2.heap.size, 0, none⟩), .int .i64 0, .pointer (some ⟨P5, 0, none⟩), .slice Au 6 cu, .int .i64 0, undef, undef, undef, undef, .tuple #[.slice A1 3 c1, .int .i64 0], .slice (some ⟨w.heap.size, 0, none⟩) 3 3, .slice (some ⟨w.heap.size + 1, 0, none⟩) 3 3, .agg #[.slice (some ⟨w.heap.size, 0, none⟩) 3 3, .slice (some ⟨w.heap.size + 1, 0, none⟩) 3 3], .tuple #[.slice A1 3 c1, .int .i64 0], .slice A1 3 c1, .int .i64 0, .tuple #[.agg #[.slice A2 n2 c2, .slice B2 m2 d2, .int .i64 lb.office, .int .i64 lb.bank, .int .i64 lb.begun, .int .i64 lb.inn, .int .i64 lb.out, .slice D2 q2 e2], .int .i64 0], .slice (some ⟨W1.heap.size, 0, none⟩) 2 2, .tuple #[.agg #[.slice A2 n2 c2, .slice B2 m2 d2, .int .i64 lb.office, .int .i64 lb.bank, .int .i64 lb.begun, .int .i64 lb.inn, .int .i64 lb.out, .slice D2 q2 e2], .int .i64 0], .agg #[.slice A2 n2 c2, .slice B2 m2 d2, .int .i64 lb.office, .int .i64 lb.bank, .int .i64 lb.begun, .int .i64 lb.inn, .int .i64 lb.out, .slice D2 q2 e2], .int .i64 0, .tuple #[.agg #[.slice A3 n3 c3, .slice B3 m3 d3, .int .i64 lr.office, .int .i64 lr.bank, .int .i64 lr.begun, .int .i64 lr.inn, .int .i64 lr.out, .slice D3 q3 e3], .slice Au 6 cu, .int .i64 0], .agg #[.slice A2 n2 c2, .slice B2 m2 d2, .int .i64 lb.office, .int .i64 lb.bank, .int .i64 lb.begun, .int .i64 lb.inn, .int .i64 lb.out, .slice D2 q2 e2], .slice (some ⟨g, 0, none⟩) 6 6, .tuple #[.agg #[.slice A3 n3 c3, .slice B3 m3 d3, .int .i64 lr.office, .int .i64 lr.bank, .int .i64 lr.begun, .int .i64 lr.inn, .int .i64 lr.out, .slice D3 q3 e3], .slice Au 6 cu, .int .i64 0], .agg #[.slice A3 n3 c3, .slice B3 m3 d3, .int .i64 lr.office, .int .i64 lr.bank, .int .i64 lr.begun, .int .i64 lr.inn, .int .i64 lr.out, .slice D3 q3 e3], .slice Au 6 cu, .int .i64 0, undef, undef, undef, undef, undef, undef, undef, undef, undef, undef, undef, undef, undef, undef, undef, undef, undef, undef, undef, undef, undef, undef, undef, undef, undef, undef, undef, undef, undef, undef, undef, undef, undef, undef, undef, undef, undef, undef, undef, undef, undef, undef, undef, undef, undef, undef, undef, undef, undef, undef, undef, undef, undef, undef, undef, undef, undef, undef, undef, undef, undef, undef, undef, undef, undef, undef, undef, undef, undef, undef, undef, undef, undef, undef, undef, undef, undef, undef, undef, undef, undef, undef, undef, undef, undef, undef, undef, undef, undef, undef, undef], defers := [] } W := by
    intro P5 g A3 n3 c3 B3 m3 d3 D3 q3 e3 Au cu W hP5 hLr hch hbw
    refine hK3 _ _ ?_
    have hsw := hbw.size
    have CS := Lib.hid (fun W A B hA hB => settle_ok weekW A B 2 2 2 2 W rfl rfl hA hB week_ok)
    rw [week_g, week_e, week_r] at CS
    unfold wkV at CS
    go_wp2_with fail
    refine (week_any W).mono ?_; rintro r W5 ⟨g1, g2, rfl, hc1, hc2, hb5⟩
    have CS1 := Lib.hid (CS.out W5 _ _ hc1 hc2)
    unfold wkV
    have hP6 := hP5.ext hb5
    have hL6 := hLr.ext hb5
    have hh6 := hch.ext hb5
    have hbw6 := ext_trans hbw hb5
    clear hP5 hLr hch hbw hb5 CS hc1 hc2
    go_wp2_with fail
    refine CS1.out.mono ?_; rintro r W6 ⟨v1, v2, v3, v4, v5, rfl, ⟨G1, z1, rfl, -, -, y1, -⟩, ⟨G2, z2, rfl, -, -, -, -⟩, ⟨G3, z3, rfl, -, -, -, -⟩, ⟨G4, z4, rfl, -, -, -, -⟩, ⟨G5, z5, rfl, -, -, y5, -⟩, hb6⟩
    have hP7 := hP6.ext hb6
    have hL7 := hL6.ext hb6
    have hh7 := hh6.ext hb6
    have hbw7 := ext_trans hbw6 hb6
    clear hP6 hL6 hh6 hbw6 hb6 CS1
    simp only [List.length_cons, List.length_nil, Nat.zero_add, Nat.reduceAdd]
    generalize weekW.settle.taxes.length = j1
    generalize weekW.settle.paid.length = j2
    generalize weekW.settle.short.length = j3
    generalize weekW.settle.premium = j4
    generalize weekW.settle.lacks = j5
    have hY := Blk.new W6 63 [.slice G1 2 z1, .slice G2 j1 z2, .int .i64 j4, .int .i64 j5, .slice G3 j2 z3, .slice G4 j3 z4, .slice G5 2 z5, .int .i64 39]
    have hAl := ext_alloc W6 (.cells #[.slice G1 2 z1, .slice G2 j1 z2, .int .i64 j4, .int .i64 j5, .slice G3 j2 z3, .slice G4 j3 z4, .slice G5 2 z5, .int .i64 39] 63)
    have hP8 := hP7.ext hAl
    have hL8 := hL7.ext hAl
    have hh8 := hh7.ext hAl
    have hbw8 := ext_trans hbw7 hAl
    have y18 := y1.ext hAl
    have y58 := y5.ext hAl
    clear hP7 hL7 hh7 hbw7 y1 y5 hAl
    go_upto_region 5 with fail
    change Blk (W6.alloc (.cells #[.slice G1 2 z1, .slice G2 j1 z2, .int .i64 j4, .int .i64 j5, .slice G3 j2 z3, .slice G4 j3 z4, .slice G5 2 z5, .int .i64 39] 63)) _ _ _ at hY
    generalize W6.heap.size = Y at *
    generalize W6.alloc (.cells #[.slice G1 2 z1, .slice G2 j1 z2, .int .i64 j4, .int .i64 j5, .slice G3 j2 z3, .slice G4 j3 z4, .slice G5 2 z5, .int .i64 39] 63) = W7 at *
    have D5 := ints_cells [50, 300, 600] W7
    have C5 := Lib.hid (Claims_any ⟨100, 800, 500⟩ _ 3 3 [50, 300, 600] _ rfl (by omega) D5)
    rw [claims_ev] at C5
    have hAl := ext_alloc W7 (.cells #[.int .i64 50, .int .i64 300, .int .i64 600] 3)
    clear D5
    simp only [List.map_cons, List.map_nil, Pol.val] at C5
    go_wp2_with fail
    refine C5.out.mono ?_; rintro r W8 ⟨v9, rfl, ⟨K5, z9, rfl, -, -, y9, -⟩, hb8⟩
    have hb9 := ext_trans hAl hb8
    have hP9 := hP8.ext hb9
    have hL9 := hL8.ext hb9
    have hh9 := hh8.ext hb9
    have hY9 := hY.ext hb9
    have hbw9 := ext_trans hbw8 hb9
    have y19 := y18.ext hb9
    have y59 := y58.ext hb9
    clear hP8 hL8 hh8 hbw8 y18 y58 hAl hb8 hb9 hY C5
    simp only [List.length_cons, List.length_nil, Nat.zero_add, Nat.reduceAdd]
    go_upto_region 6 with fail
    obtain ⟨hw1, hd1, ho1, hk1⟩ := Hru.out
    have e1 := hL9.hn
    rw [hw1] at e1
    have e2' := hL9.hq
    rw [hd1] at e2'
    simp only [List.length_cons, List.length_nil, Nat.zero_add, Nat.reduceAdd] at e1 e2'
    subst e1 e2'
    rw [ho1, hk1] at hP9
    have ya := hL9.a
    rw [hw1] at ya
    have yd := hL9.d
    rw [hd1] at yd
    obtain ⟨db, doff, rfl, -, -, -, -⟩ := yd.at3 (k := 0) (by simp) rfl
    clear hL9 hw1 hd1 ho1 hk1 Hru hK3
    have hP := hP9
    have hYY := hY9
    have hbw := hbw9
    clear hP9 hY9 hbw9
    have p0 : W8.cell? ⟨P5, 0, none⟩ = _ := hP.cell (i := 0) rfl
    have p2 : W8.cell? ⟨P5, 2, none⟩ = _ := hP.cell (i := 2) rfl
    have p3 : W8.cell? ⟨P5, 3, none⟩ = _ := hP.cell (i := 3) rfl
    have p7 : W8.cell? ⟨P5, 7, none⟩ = _ := hP.cell (i := 7) rfl
    have s0 : W8.cell? ⟨Y, 0, none⟩ = _ := hYY.cell (i := 0) rfl
    have s6 : W8.cell? ⟨Y, 6, none⟩ = _ := hYY.cell (i := 6) rfl
    have s7 : W8.cell? ⟨Y, 7, none⟩ = _ := hYY.cell (i := 7) rfl
    obtain ⟨_, _, he, -, d0, d1, d2'⟩ := yd.at3 (k := 0) (by simp) rfl
    cases he
    simp only [Nat.zero_mul, Nat.add_zero] at d0 d1 d2'
    have D5 := ints_cells [0, 2, 0] W8
    have C5 := Lib.hid (ints_any A1 _ 3 3 c1 3 [0, 2, 0] [0, 2, 0] _ rfl rfl (by omega) (by omega) (hh9.alloc (.cells (([0, 2, 0] : List Int).map (Value.int .i64)).toArray 3)) D5)
    have hAl := ext_alloc W8 (.cells #[.int .i64 0, .int .i64 2, .int .i64 0] 3)
    clear D5
    rw [decide_eq_true (rfl : [0, 2, 0] = ([0, 2, 0] : List Int))] at C5
    simp only [List.map_cons, List.map_nil] at C5
    go_wp2_with fail
    refine C5.out.mono ?_; rintro r V0 ⟨rfl, hb8⟩
    have hb9 := ext_trans hAl hb8
    replace hbw := ext_trans hbw hb9
    replace hh9 := hh9.ext hb9
    replace ya := ya.ext hb9
    replace y19 := y19.ext hb9
    replace y59 := y59.ext hb9
    replace y9 := y9.ext hb9
    replace yd := yd.ext hb9
    replace hP := hP.ext hb9
    replace hYY := hYY.ext hb9
    clear C5 hb8 hb9 hAl p0 p2 p3 p7 s0 s6 s7 d0 d1 d2'
    have p0 : V0.cell? ⟨P5, 0, none⟩ = _ := hP.cell (i := 0) rfl
    have p2 : V0.cell? ⟨P5, 2, none⟩ = _ := hP.cell (i := 2) rfl
    have p3 : V0.cell? ⟨P5, 3, none⟩ = _ := hP.cell (i := 3) rfl
    have p7 : V0.cell? ⟨P5, 7, none⟩ = _ := hP.cell (i := 7) rfl
    have s0 : V0.cell? ⟨Y, 0, none⟩ = _ := hYY.cell (i := 0) rfl
    have s6 : V0.cell? ⟨Y, 6, none⟩ = _ := hYY.cell (i := 6) rfl
    have s7 : V0.cell? ⟨Y, 7, none⟩ = _ := hYY.cell (i := 7) rfl
    obtain ⟨_, _, he, -, d0, d1, d2'⟩ := yd.at3 (k := 0) (by simp) rfl
    cases he
    simp only [Nat.zero_mul, Nat.add_zero] at d0 d1 d2'
    have D5 := ints_cells [10, 50] V0
    have C5 := Lib.hid (ints_any A3 _ 2 2 c3 2 [10, 50] [10, 50] _ rfl rfl (by omega) (by omega) (ya.alloc (.cells (([10, 50] : List Int).map (Value.int .i64)).toArray 3)) D5)
    have hAl := ext_alloc V0 (.cells #[.int .i64 10, .int .i64 50] 3)
    clear D5
    rw [decide_eq_true (rfl : [10, 50] = ([10, 50] : List Int))] at C5
    simp only [List.map_cons, List.map_nil] at C5
    go_wp2_with fail
    refine C5.out.mono ?_; rintro r V1 ⟨rfl, hb8⟩
    have hb9 := ext_trans hAl hb8
    replace hbw := ext_trans hbw hb9
    replace hh9 := hh9.ext hb9
    replace ya := ya.ext hb9
    replace y19 := y19.ext hb9
    replace y59 := y59.ext hb9
    replace y9 := y9.ext hb9
    replace yd := yd.ext hb9
    replace hP := hP.ext hb9
    replace hYY := hYY.ext hb9
    clear C5 hb8 hb9 hAl p0 p2 p3 p7 s0 s6 s7 d0 d1 d2'
    have p0 : V1.cell? ⟨P5, 0, none⟩ = _ := hP.cell (i := 0) rfl
    have p2 : V1.cell? ⟨P5, 2, none⟩ = _ := hP.cell (i := 2) rfl
    have p3 : V1.cell? ⟨P5, 3, none⟩ = _ := hP.cell (i := 3) rfl
    have p7 : V1.cell? ⟨P5, 7, none⟩ = _ := hP.cell (i := 7) rfl
    have s0 : V1.cell? ⟨Y, 0, none⟩ = _ := hYY.cell (i := 0) rfl
    have s6 : V1.cell? ⟨Y, 6, none⟩ = _ := hYY.cell (i := 6) rfl
    have s7 : V1.cell? ⟨Y, 7, none⟩ = _ := hYY.cell (i := 7) rfl
    obtain ⟨_, _, he, -, d0, d1, d2'⟩ := yd.at3 (k := 0) (by simp) rfl
    cases he
    simp only [Nat.zero_mul, Nat.add_zero] at d0 d1 d2'
    have D5 := ints_cells [1500, 100] V1
    have C5 := Lib.hid (ints_any G1 _ 2 2 z1 2 [1500, 100] [1500, 100] _ rfl rfl (by omega) (by omega) (y19.alloc (.cells (([1500, 100] : List Int).map (Value.int .i64)).toArray 3)) D5)
    have hAl := ext_alloc V1 (.cells #[.int .i64 1500, .int .i64 100] 3)
    clear D5
    rw [decide_eq_true (rfl : [1500, 100] = ([1500, 100] : List Int))] at C5
    simp only [List.map_cons, List.map_nil] at C5
    go_wp2_with fail
    refine C5.out.mono ?_; rintro r V2 ⟨rfl, hb8⟩
    have hb9 := ext_trans hAl hb8
    replace hbw := ext_trans hbw hb9
    replace hh9 := hh9.ext hb9
    replace ya := ya.ext hb9
    replace y19 := y19.ext hb9
    replace y59 := y59.ext hb9
    replace y9 := y9.ext hb9
    replace yd := yd.ext hb9
    replace hP := hP.ext hb9
    replace hYY := hYY.ext hb9
    clear C5 hb8 hb9 hAl p0 p2 p3 p7 s0 s6 s7 d0 d1 d2'
    have p0 : V2.cell? ⟨P5, 0, none⟩ = _ := hP.cell (i := 0) rfl
    have p2 : V2.cell? ⟨P5, 2, none⟩ = _ := hP.cell (i := 2) rfl
    have p3 : V2.cell? ⟨P5, 3, none⟩ = _ := hP.cell (i := 3) rfl
    have p7 : V2.cell? ⟨P5, 7, none⟩ = _ := hP.cell (i := 7) rfl
    have s0 : V2.cell? ⟨Y, 0, none⟩ = _ := hYY.cell (i := 0) rfl
    have s6 : V2.cell? ⟨Y, 6, none⟩ = _ := hYY.cell (i := 6) rfl
    have s7 : V2.cell? ⟨Y, 7, none⟩ = _ := hYY.cell (i := 7) rfl
    obtain ⟨_, _, he, -, d0, d1, d2'⟩ := yd.at3 (k := 0) (by simp) rfl
    cases he
    simp only [Nat.zero_mul, Nat.add_zero] at d0 d1 d2'
    have D5 := ints_cells [16, 0] V2
    have C5 := Lib.hid (ints_any G5 _ 2 2 z5 2 [16, 0] [16, 0] _ rfl rfl (by omega) (by omega) (y59.alloc (.cells (([16, 0] : List Int).map (Value.int .i64)).toArray 3)) D5)
    have hAl := ext_alloc V2 (.cells #[.int .i64 16, .int .i64 0] 3)
    clear D5
    rw [decide_eq_true (rfl : [16, 0] = ([16, 0] : List Int))] at C5
    simp only [List.map_cons, List.map_nil] at C5
    go_wp2_with fail
    refine C5.out.mono ?_; rintro r V3 ⟨rfl, hb8⟩
    have hb9 := ext_trans hAl hb8
    replace hbw := ext_trans hbw hb9
    replace hh9 := hh9.ext hb9
    replace ya := ya.ext hb9
    replace y19 := y19.ext hb9
    replace y59 := y59.ext hb9
    replace y9 := y9.ext hb9
    replace yd := yd.ext hb9
    replace hP := hP.ext hb9
    replace hYY := hYY.ext hb9
    clear C5 hb8 hb9 hAl p0 p2 p3 p7 s0 s6 s7 d0 d1 d2'
    have p0 : V3.cell? ⟨P5, 0, none⟩ = _ := hP.cell (i := 0) rfl
    have p2 : V3.cell? ⟨P5, 2, none⟩ = _ := hP.cell (i := 2) rfl
    have p3 : V3.cell? ⟨P5, 3, none⟩ = _ := hP.cell (i := 3) rfl
    have p7 : V3.cell? ⟨P5, 7, none⟩ = _ := hP.cell (i := 7) rfl
    have s0 : V3.cell? ⟨Y, 0, none⟩ = _ := hYY.cell (i := 0) rfl
    have s6 : V3.cell? ⟨Y, 6, none⟩ = _ := hYY.cell (i := 6) rfl
    have s7 : V3.cell? ⟨Y, 7, none⟩ = _ := hYY.cell (i := 7) rfl
    obtain ⟨_, _, he, -, d0, d1, d2'⟩ := yd.at3 (k := 0) (by simp) rfl
    cases he
    simp only [Nat.zero_mul, Nat.add_zero] at d0 d1 d2'
    have D5 := ints_cells [0, 160, 340] V3
    have C5 := Lib.hid (ints_any K5 _ 3 3 z9 3 [0, 160, 340] [0, 160, 340] _ rfl rfl (by omega) (by omega) (y9.alloc (.cells (([0, 160, 340] : List Int).map (Value.int .i64)).toArray 3)) D5)
    have hAl := ext_alloc V3 (.cells #[.int .i64 0, .int .i64 160, .int .i64 340] 3)
    clear D5
    rw [decide_eq_true (rfl : [0, 160, 340] = ([0, 160, 340] : List Int))] at C5
    simp only [List.map_cons, List.map_nil] at C5
    go_wp2_with fail
    refine C5.out.mono ?_; rintro r V4 ⟨rfl, hb8⟩
    have hb9 := ext_trans hAl hb8
    replace hbw := ext_trans hbw hb9
    replace hh9 := hh9.ext hb9
    replace ya := ya.ext hb9
    replace y19 := y19.ext hb9
    replace y59 := y59.ext hb9
    replace y9 := y9.ext hb9
    replace yd := yd.ext hb9
    replace hP := hP.ext hb9
    replace hYY := hYY.ext hb9
    clear C5 hb8 hb9 hAl p0 p2 p3 p7 s0 s6 s7 d0 d1 d2'
    have p0 : V4.cell? ⟨P5, 0, none⟩ = _ := hP.cell (i := 0) rfl
    have p2 : V4.cell? ⟨P5, 2, none⟩ = _ := hP.cell (i := 2) rfl
    have p3 : V4.cell? ⟨P5, 3, none⟩ = _ := hP.cell (i := 3) rfl
    have p7 : V4.cell? ⟨P5, 7, none⟩ = _ := hP.cell (i := 7) rfl
    have s0 : V4.cell? ⟨Y, 0, none⟩ = _ := hYY.cell (i := 0) rfl
    have s6 : V4.cell? ⟨Y, 6, none⟩ = _ := hYY.cell (i := 6) rfl
    have s7 : V4.cell? ⟨Y, 7, none⟩ = _ := hYY.cell (i := 7) rfl
    obtain ⟨_, _, he, -, d0, d1, d2'⟩ := yd.at3 (k := 0) (by simp) rfl
    cases he
    simp only [Nat.zero_mul, Nat.add_zero] at d0 d1 d2'
    go_wp2
    go_ret
    exact ⟨rfl, hbw⟩

  clear hK3
  refine Dr.Any.wp_region_plan 11 (Dr.Any.from_ W3.drew.heap.size) (.q [0] (.e2 1 (.e2 2 (.q [3, 4, 5, 6] (.e1 7 (.e1 8 (.q [9, 10] .done)))) 7 (.e1 2 (.q [3, 4, 5, 6] (.e1 8 (.q [9, 10] .done))))) 7 (.e1 1 (.e1 2 (.q [3, 4, 5, 6] (.e1 8 (.q [9, 10] .done))))))) (by kernel_rfl) (by kernel_rfl) ?_
  have hB3 := hBX.drew
  have hL3 := hLX.ext (ext_drew W3)
  have hc3 := hcX.drew
  have hb3 := hbX.drew
  clear hBX hLX hcX hbX
  generalize W3.drew = W4 at *
  have hlt3 := hB3.lt
  have hw4 := hb3.size
  have qq0 := Dr.Any.cls_cell (M := Dr.Any.from_ W4.heap.size) (hB3.cell (i := 0) rfl) (by rw [Dr.Any.mem_from]; simp only; omega)
  have qq1 := Dr.Any.cls_cell (M := Dr.Any.from_ W4.heap.size) (hB3.cell (i := 1) rfl) (by rw [Dr.Any.mem_from]; simp only; omega)
  have qq2 := Dr.Any.cls_cell (M := Dr.Any.from_ W4.heap.size) (hB3.cell (i := 2) rfl) (by rw [Dr.Any.mem_from]; simp only; omega)
  have qq3 := Dr.Any.cls_cell (M := Dr.Any.from_ W4.heap.size) (hB3.cell (i := 3) rfl) (by rw [Dr.Any.mem_from]; simp only; omega)
  have qq4 := Dr.Any.cls_cell (M := Dr.Any.from_ W4.heap.size) (hB3.cell (i := 4) rfl) (by rw [Dr.Any.mem_from]; simp only; omega)
  have qq5 := Dr.Any.cls_cell (M := Dr.Any.from_ W4.heap.size) (hB3.cell (i := 5) rfl) (by rw [Dr.Any.mem_from]; simp only; omega)
  have qq6 := Dr.Any.cls_cell (M := Dr.Any.from_ W4.heap.size) (hB3.cell (i := 6) rfl) (by rw [Dr.Any.mem_from]; simp only; omega)
  have qq7 := Dr.Any.cls_cell (M := Dr.Any.from_ W4.heap.size) (hB3.cell (i := 7) rfl) (by rw [Dr.Any.mem_from]; simp only; omega)
  refine Dr.Any.plan_q (l := [_]) rfl (fun K hK => ?_)
  iterate 1 (go_big_quiet_step (fail))
  refine wpQuiet_nil (hK _ ?_); clear hK K
  clear qq0 qq1 qq2 qq3 qq4 qq5 qq6 qq7
  have hA1 : ∀ k, A1.map (·.block) = some k → k < W4.heap.size := fun k hk => by have := hA1' k hk; omega
  refine Dr.Any.plan_e2 ?_ ?_
  · skip
    refine Dr.Any.plan_e rfl (by rfl) (fun K hK => ?_)
    go_wp2_with fail
    refine (CD.out _).mono ?_; rintro r W5 ⟨g, rfl, hZ, hbn⟩
    refine hK _ _ (.of hbn) ?_; clear hK K
    replace hL3 := hL3.ext hbn
    replace hc3 := hc3.ext hbn
    replace hb3 := ext_trans hb3 hbn
    have hsW5 := hbn.size
    refine Dr.Any.plan_e2 ?_ ?_
    · skip
      refine Dr.Any.plan_e rfl (by rfl) (fun K hK => ?_)
      go_wp2_with fail
      refine (CR.out _ g hZ hL3).mono ?_; rintro r W6 ⟨v6, u6, rfl, ⟨A3, n3, c3, B3, m3, d3, D3, q3, e3, rfl, L6⟩, ⟨Au, cu, rfl, -, -, -, -⟩, hbn⟩
      unfold ledV
      refine hK _ _ (.of hbn) ?_; clear hK K
      clear hL3
      replace hc3 := hc3.ext hbn
      replace hb3 := ext_trans hb3 hbn
      have hsW6 := hbn.size
      refine Dr.Any.plan_q (l := [_, _, _, _]) rfl (fun K hK => ?_)
      iterate 4 (go_big_quiet_step (fail))
      refine wpQuiet_nil (hK _ ?_); clear hK K
      refine Dr.Any.plan_e rfl (by rfl) (fun K hK => ?_)
      go_wp2_with fail
      refine hK _ _ (.of (ext_alloc _ _)) ?_; clear hK K
      have hP5 := Blk.new W6 34 [.slice none 0 0, .slice none 0 0, .int .i64 0, .int .i64 0, .int .i64 0, .int .i64 0, .int .i64 0, .slice none 0 0]
      have hAl := ext_alloc W6 (.cells #[.slice none 0 0, .slice none 0 0, .int .i64 0, .int .i64 0, .int .i64 0, .int .i64 0, .int .i64 0, .slice none 0 0] 34)
      replace hc3 := hc3.ext hAl
      replace hb3 := ext_trans hb3 hAl
      have hsW7 := hAl.size
      have hP5g : W4.heap.size ≤ W6.heap.size := by omega
      change Blk (W6.alloc (.cells #[.slice none 0 0, .slice none 0 0, .int .i64 0, .int .i64 0, .int .i64 0, .int .i64 0, .int .i64 0, .slice none 0 0] 34)) _ _ _ at hP5
      have hL7 := L6.ext hAl
      have hs67 := hAl.size
      generalize hP5e : W6.heap.size = P5 at *
      generalize W6.alloc (.cells #[.slice none 0 0, .slice none 0 0, .int .i64 0, .int .i64 0, .int .i64 0, .int .i64 0, .int .i64 0, .slice none 0 0] 34) = W7 at *
      have y0 : W7.cell? ⟨P5, 0, none⟩ = _ := hP5.cell (i := 0) rfl
      have y1 : W7.cell? ⟨P5, 1, none⟩ = _ := hP5.cell (i := 1) rfl
      have y2 : W7.cell? ⟨P5, 2, none⟩ = _ := hP5.cell (i := 2) rfl
      have y3 : W7.cell? ⟨P5, 3, none⟩ = _ := hP5.cell (i := 3) rfl
      have y4 : W7.cell? ⟨P5, 4, none⟩ = _ := hP5.cell (i := 4) rfl
      have y5 : W7.cell? ⟨P5, 5, none⟩ = _ := hP5.cell (i := 5) rfl
      have y6 : W7.cell? ⟨P5, 6, none⟩ = _ := hP5.cell (i := 6) rfl
      have y7 : W7.cell? ⟨P5, 7, none⟩ = _ := hP5.cell (i := 7) rfl
      have f0 := hP5.free 0
      have f1 := hP5.free 1
      have f2 := hP5.free 2
      have f3 := hP5.free 3
      have f4 := hP5.free 4
      have f5 := hP5.free 5
      have f6 := hP5.free 6
      have f7 := hP5.free 7
      refine Dr.Any.plan_e rfl (by rfl) (fun K hK => ?_)
      go_wp2_with fail
      generalize hWf : World.setCell _ _ (Value.slice D3 q3 e3) = Wf
      have hPf := hP5.put_eq [.slice A3 n3 c3, .slice B3 m3 d3, .int .i64 lr.office, .int .i64 lr.bank, .int .i64 lr.begun, .int .i64 lr.inn, .int .i64 lr.out, .slice D3 q3 e3] hWf rfl
      have hbf : Dr.Bel [P5] W7 Wf := bel_put_eq [.slice A3 n3 c3, .slice B3 m3 d3, .int .i64 lr.office, .int .i64 lr.bank, .int .i64 lr.begun, .int .i64 lr.inn, .int .i64 lr.out, .slice D3 q3 e3] hWf
      clear hWf y0 y1 y2 y3 y4 y5 y6 y7 f0 f1 f2 f3 f4 f5 f6 f7
      refine hK _ _ (bel_any hbf (by rw [Dr.Any.mem_from]; omega)) ?_; clear hK K
      refine Dr.Any.plan_q (l := [_, _]) rfl (fun K hK => ?_)
      iterate 2 (go_big_quiet_step (fail))
      refine wpQuiet_nil (hK _ ?_); clear hK K
      refine Dr.Any.plan_end rfl ?_
      exact tail P5 g _ _ _ _ _ _ _ _ _ _ _ _ hPf (hL7.bel1 hbf (fun k hk => by have := (L6.fa k hk).2; omega) (fun k hk => by have := (L6.fb k hk).2; omega) (fun k hk => by have := (L6.fd k hk).2; omega)).m (cells_bel hc3 hbf (fun k hk hm => by have := hA1 k hk; simp at hm; omega)) (hb3.trans (hbf.old (by omega) (by simp; omega)))
    · skip
      refine Dr.Any.plan_e rfl (by rfl) (fun K hK => ?_)
      go_wp2_with fail
      refine hK _ _ (.of (ext_alloc _ _)) ?_; clear hK K
      have hP5 := Blk.new W5 34 [.slice none 0 0, .slice none 0 0, .int .i64 0, .int .i64 0, .int .i64 0, .int .i64 0, .int .i64 0, .slice none 0 0]
      have hAl := ext_alloc W5 (.cells #[.slice none 0 0, .slice none 0 0, .int .i64 0, .int .i64 0, .int .i64 0, .int .i64 0, .int .i64 0, .slice none 0 0] 34)
      replace hc3 := hc3.ext hAl
      replace hb3 := ext_trans hb3 hAl
      have hsW6 := hAl.size
      have hP5g : W4.heap.size ≤ W5.heap.size := by omega
      change Blk (W5.alloc (.cells #[.slice none 0 0, .slice none 0 0, .int .i64 0, .int .i64 0, .int .i64 0, .int .i64 0, .int .i64 0, .slice none 0 0] 34)) _ _ _ at hP5
      replace hL3 := hL3.ext hAl
      replace hZ := hZ.ext hAl
      generalize hP5e : W5.heap.size = P5 at *
      generalize W5.alloc (.cells #[.slice none 0 0, .slice none 0 0, .int .i64 0, .int .i64 0, .int .i64 0, .int .i64 0, .int .i64 0, .slice none 0 0] 34) = W6 at *
      have hP5l := hP5.lt
      refine Dr.Any.plan_e rfl (by rfl) (fun K hK => ?_)
      go_wp2_with fail
      refine (CR.out _ g hZ hL3).mono ?_; rintro r W7 ⟨v6, u6, rfl, ⟨A3, n3, c3, B3, m3, d3, D3, q3, e3, rfl, L6⟩, ⟨Au, cu, rfl, -, -, -, -⟩, hbn⟩
      unfold ledV
      refine hK _ _ (.of hbn) ?_; clear hK K
      clear hL3
      replace hP5 := hP5.ext hbn
      have hL7 := L6
      replace hc3 := hc3.ext hbn
      replace hb3 := ext_trans hb3 hbn
      have hsW7 := hbn.size
      refine Dr.Any.plan_q (l := [_, _, _, _]) rfl (fun K hK => ?_)
      iterate 4 (go_big_quiet_step (fail))
      refine wpQuiet_nil (hK _ ?_); clear hK K
      have y0 : W7.cell? ⟨P5, 0, none⟩ = _ := hP5.cell (i := 0) rfl
      have y1 : W7.cell? ⟨P5, 1, none⟩ = _ := hP5.cell (i := 1) rfl
      have y2 : W7.cell? ⟨P5, 2, none⟩ = _ := hP5.cell (i := 2) rfl
      have y3 : W7.cell? ⟨P5, 3, none⟩ = _ := hP5.cell (i := 3) rfl
      have y4 : W7.cell? ⟨P5, 4, none⟩ = _ := hP5.cell (i := 4) rfl
      have y5 : W7.cell? ⟨P5, 5, none⟩ = _ := hP5.cell (i := 5) rfl
      have y6 : W7.cell? ⟨P5, 6, none⟩ = _ := hP5.cell (i := 6) rfl
      have y7 : W7.cell? ⟨P5, 7, none⟩ = _ := hP5.cell (i := 7) rfl
      have f0 := hP5.free 0
      have f1 := hP5.free 1
      have f2 := hP5.free 2
      have f3 := hP5.free 3
      have f4 := hP5.free 4
      have f5 := hP5.free 5
      have f6 := hP5.free 6
      have f7 := hP5.free 7
      refine Dr.Any.plan_e rfl (by rfl) (fun K hK => ?_)
      go_wp2_with fail
      generalize hWf : World.setCell _ _ (Value.slice D3 q3 e3) = Wf
      have hPf := hP5.put_eq [.slice A3 n3 c3, .slice B3 m3 d3, .int .i64 lr.office, .int .i64 lr.bank, .int .i64 lr.begun, .int .i64 lr.inn, .int .i64 lr.out, .slice D3 q3 e3] hWf rfl
      have hbf : Dr.Bel [P5] W7 Wf := bel_put_eq [.slice A3 n3 c3, .slice B3 m3 d3, .int .i64 lr.office, .int .i64 lr.bank, .int .i64 lr.begun, .int .i64 lr.inn, .int .i64 lr.out, .slice D3 q3 e3] hWf
      clear hWf y0 y1 y2 y3 y4 y5 y6 y7 f0 f1 f2 f3 f4 f5 f6 f7
      refine hK _ _ (bel_any hbf (by rw [Dr.Any.mem_from]; omega)) ?_; clear hK K
      refine Dr.Any.plan_q (l := [_, _]) rfl (fun K hK => ?_)
      iterate 2 (go_big_quiet_step (fail))
      refine wpQuiet_nil (hK _ ?_); clear hK K
      refine Dr.Any.plan_end rfl ?_
      exact tail P5 g _ _ _ _ _ _ _ _ _ _ _ _ hPf (hL7.bel1 hbf (fun k hk => by have := (L6.fa k hk).1; omega) (fun k hk => by have := (L6.fb k hk).1; omega) (fun k hk => by have := (L6.fd k hk).1; omega)).m (cells_bel hc3 hbf (fun k hk hm => by have := hA1 k hk; simp at hm; omega)) (hb3.trans (hbf.old (by omega) (by simp; omega)))
  · skip
    refine Dr.Any.plan_e rfl (by rfl) (fun K hK => ?_)
    go_wp2_with fail
    refine hK _ _ (.of (ext_alloc _ _)) ?_; clear hK K
    have hP5 := Blk.new W4 34 [.slice none 0 0, .slice none 0 0, .int .i64 0, .int .i64 0, .int .i64 0, .int .i64 0, .int .i64 0, .slice none 0 0]
    have hAl := ext_alloc W4 (.cells #[.slice none 0 0, .slice none 0 0, .int .i64 0, .int .i64 0, .int .i64 0, .int .i64 0, .int .i64 0, .slice none 0 0] 34)
    replace hc3 := hc3.ext hAl
    replace hb3 := ext_trans hb3 hAl
    have hsW5 := hAl.size
    have hP5g : W4.heap.size ≤ W4.heap.size := by omega
    change Blk (W4.alloc (.cells #[.slice none 0 0, .slice none 0 0, .int .i64 0, .int .i64 0, .int .i64 0, .int .i64 0, .int .i64 0, .slice none 0 0] 34)) _ _ _ at hP5
    replace hL3 := hL3.ext hAl
    obtain ⟨P5, hP5e⟩ : ∃ P5, W4.heap.size = P5 := ⟨_, rfl⟩
    rw [hP5e] at hP5
    generalize W4.alloc (.cells #[.slice none 0 0, .slice none 0 0, .int .i64 0, .int .i64 0, .int .i64 0, .int .i64 0, .int .i64 0, .slice none 0 0] 34) = W5 at *
    rw [hP5e]
    have hP5l := hP5.lt
    refine Dr.Any.plan_e rfl (by rfl) (fun K hK => ?_)
    go_wp2_with fail
    refine (CD.out _).mono ?_; rintro r W6 ⟨g, rfl, hZ, hbn⟩
    refine hK _ _ (.of hbn) ?_; clear hK K
    replace hP5 := hP5.ext hbn
    replace hL3 := hL3.ext hbn
    replace hc3 := hc3.ext hbn
    replace hb3 := ext_trans hb3 hbn
    have hsW6 := hbn.size
    refine Dr.Any.plan_e rfl (by rfl) (fun K hK => ?_)
    go_wp2_with fail
    refine (CR.out _ g hZ hL3).mono ?_; rintro r W7 ⟨v6, u6, rfl, ⟨A3, n3, c3, B3, m3, d3, D3, q3, e3, rfl, L6⟩, ⟨Au, cu, rfl, -, -, -, -⟩, hbn⟩
    unfold ledV
    refine hK _ _ (.of hbn) ?_; clear hK K
    clear hL3
    replace hP5 := hP5.ext hbn
    have hL7 := L6
    replace hc3 := hc3.ext hbn
    replace hb3 := ext_trans hb3 hbn
    have hsW7 := hbn.size
    refine Dr.Any.plan_q (l := [_, _, _, _]) rfl (fun K hK => ?_)
    iterate 4 (go_big_quiet_step (fail))
    refine wpQuiet_nil (hK _ ?_); clear hK K
    have y0 : W7.cell? ⟨P5, 0, none⟩ = _ := hP5.cell (i := 0) rfl
    have y1 : W7.cell? ⟨P5, 1, none⟩ = _ := hP5.cell (i := 1) rfl
    have y2 : W7.cell? ⟨P5, 2, none⟩ = _ := hP5.cell (i := 2) rfl
    have y3 : W7.cell? ⟨P5, 3, none⟩ = _ := hP5.cell (i := 3) rfl
    have y4 : W7.cell? ⟨P5, 4, none⟩ = _ := hP5.cell (i := 4) rfl
    have y5 : W7.cell? ⟨P5, 5, none⟩ = _ := hP5.cell (i := 5) rfl
    have y6 : W7.cell? ⟨P5, 6, none⟩ = _ := hP5.cell (i := 6) rfl
    have y7 : W7.cell? ⟨P5, 7, none⟩ = _ := hP5.cell (i := 7) rfl
    have f0 := hP5.free 0
    have f1 := hP5.free 1
    have f2 := hP5.free 2
    have f3 := hP5.free 3
    have f4 := hP5.free 4
    have f5 := hP5.free 5
    have f6 := hP5.free 6
    have f7 := hP5.free 7
    refine Dr.Any.plan_e rfl (by rfl) (fun K hK => ?_)
    go_wp2_with fail
    generalize hWf : World.setCell _ _ (Value.slice D3 q3 e3) = Wf
    have hPf := hP5.put_eq [.slice A3 n3 c3, .slice B3 m3 d3, .int .i64 lr.office, .int .i64 lr.bank, .int .i64 lr.begun, .int .i64 lr.inn, .int .i64 lr.out, .slice D3 q3 e3] hWf rfl
    have hbf : Dr.Bel [P5] W7 Wf := bel_put_eq [.slice A3 n3 c3, .slice B3 m3 d3, .int .i64 lr.office, .int .i64 lr.bank, .int .i64 lr.begun, .int .i64 lr.inn, .int .i64 lr.out, .slice D3 q3 e3] hWf
    clear hWf y0 y1 y2 y3 y4 y5 y6 y7 f0 f1 f2 f3 f4 f5 f6 f7
    refine hK _ _ (bel_any hbf (by rw [Dr.Any.mem_from]; omega)) ?_; clear hK K
    refine Dr.Any.plan_q (l := [_, _]) rfl (fun K hK => ?_)
    iterate 2 (go_big_quiet_step (fail))
    refine wpQuiet_nil (hK _ ?_); clear hK K
    refine Dr.Any.plan_end rfl ?_
    exact tail P5 g _ _ _ _ _ _ _ _ _ _ _ _ hPf (hL7.bel1 hbf (fun k hk => by have := (L6.fa k hk).1; omega) (fun k hk => by have := (L6.fb k hk).1; omega) (fun k hk => by have := (L6.fd k hk).1; omega)).m (cells_bel hc3 hbf (fun k hk hm => by have := hA1 k hk; simp at hm; omega)) (hb3.trans (hbf.old (by omega) (by simp; omega)))
end Go.Proofs.YtnjdlhhgnamigaaGreat

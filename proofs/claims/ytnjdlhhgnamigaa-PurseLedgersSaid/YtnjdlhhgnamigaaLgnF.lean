/- Walk: a first ledger by the reference. -/
import Derived.Test.YtnjdlhhgnamigaaLgnD
namespace Go.Pu
def beginE (l : List Int) (o : Int) : Led × Bool := ((beginL l o).1, decide ((beginL l o).2 = 0))
theorem beginE_eq (l : List Int) (o : Int) : beginE l o = if decide (1 ≤ (l.length : Int) ∧ (l.length : Int) ≤ 10) && monB o then (if l.all monB then (if monB (o + Go.Pl.isum l) then (⟨l, [], o, 0, o + Go.Pl.isum l, 0, 0, []⟩, true) else (Led.zero, false)) else (Led.zero, false)) else (Led.zero, false) := by
  unfold beginE
  rw [Go.Proofs.Ytnjdlhhgnamigaa.beginL_eq]
  cases decide (1 ≤ (l.length : Int) ∧ (l.length : Int) ≤ 10) <;> cases l.all monB <;> cases monB o <;> cases monB (o + Go.Pl.isum l) <;> simp
end Go.Pu
namespace Go.Proofs.Ytnjdlhhgnamigaa
open Go.RowKit Go.Bs Go.Pu Go.Pl Go.Sort
set_option maxRecDepth 100000 in
set_option maxHeartbeats 4000000 in
theorem BeginR_any (wins : List Int) (A : Option Addr) (n c : Nat) (o : Int) (w : World) (hn : wins.length = n) (h9 : n ≤ 1000) (hA : Cells w A 1 encI wins) :
    Calls Try.prog 49 #[.slice A n c, .int .i64 o] w fun r w' => ∃ v, r = .returned (.tuple #[v, .bool (beginE wins o).2]) ∧ LedAt w' v (beginE wins o).1 ∧ Below w.heap.size w w' := by
  have hbw0 := ext_alloc w (.cells #[.slice none 0 0, .slice none 0 0, .int .i64 0, .int .i64 0, .int .i64 0, .int .i64 0, .int .i64 0, .slice none 0 0] 75)
  have hR0 := Blk.new w 75 [.slice none 0 0, .slice none 0 0, .int .i64 0, .int .i64 0, .int .i64 0, .int .i64 0, .int .i64 0, .slice none 0 0]
  have hA0 := hA.ext hbw0
  have he := beginE_eq wins o
  rw [hn] at he
  have C1 := Lib.hid (fun W => In_any (n : Int) 1 10 W)
  have C2 := Lib.hid (fun W => moneyR_any o W)
  generalize hres : beginE wins o = res at *
  obtain ⟨l0, er⟩ := res
  generalize decide (1 ≤ (n : Int) ∧ (n : Int) ≤ 10) = b1 at *
  generalize hb2 : monB o = b2 at *
  have Hb2 := Lib.hid hb2
  have He := Lib.hid he
  have Hn := Lib.hid hn
  clear he hn hA hres hb2
  go_enter Try.func49, Try.ntmps49
  go_upto_region 1 with fail
  change Blk (w.alloc (.cells #[.slice none 0 0, .slice none 0 0, .int .i64 0, .int .i64 0, .int .i64 0, .int .i64 0, .int .i64 0, .slice none 0 0] 75)) _ _ _ at hR0
  generalize w.alloc (.cells #[.slice none 0 0, .slice none 0 0, .int .i64 0, .int .i64 0, .int .i64 0, .int .i64 0, .int .i64 0, .slice none 0 0] 75) = W0 at *
  go_wp2_with fail
  refine (C1.out _).mono ?_; rintro r w9 ⟨rfl, rfl⟩
  cases b1
  · have hx := He.out
    simp only [Bool.false_and, Bool.false_eq_true, if_false] at hx
    obtain ⟨rfl, rfl⟩ : l0 = Led.zero ∧ er = false := by simpa using hx
    have y0 : W0.cell? ⟨w.heap.size, 0, none⟩ = _ := hR0.cell (i := 0) rfl
    have y1 : W0.cell? ⟨w.heap.size, 1, none⟩ = _ := hR0.cell (i := 1) rfl
    have y2 : W0.cell? ⟨w.heap.size, 2, none⟩ = _ := hR0.cell (i := 2) rfl
    have y3 : W0.cell? ⟨w.heap.size, 3, none⟩ = _ := hR0.cell (i := 3) rfl
    have y4 : W0.cell? ⟨w.heap.size, 4, none⟩ = _ := hR0.cell (i := 4) rfl
    have y5 : W0.cell? ⟨w.heap.size, 5, none⟩ = _ := hR0.cell (i := 5) rfl
    have y6 : W0.cell? ⟨w.heap.size, 6, none⟩ = _ := hR0.cell (i := 6) rfl
    have y7 : W0.cell? ⟨w.heap.size, 7, none⟩ = _ := hR0.cell (i := 7) rfl
    have f0 := hR0.free 0
    have f1 := hR0.free 1
    have f2 := hR0.free 2
    have f3 := hR0.free 3
    have f4 := hR0.free 4
    have f5 := hR0.free 5
    have f6 := hR0.free 6
    have f7 := hR0.free 7
    go_wp2
    generalize hWf : World.setCell _ _ _ = Wf
    have hYf := hR0.put_eq [.slice none 0 0, .slice none 0 0, .int .i64 0, .int .i64 0, .int .i64 0, .int .i64 0, .int .i64 0, .slice none 0 0] hWf rfl
    have hbf : Dr.Bel [w.heap.size] W0 Wf := bel_put_eq [.slice none 0 0, .slice none 0 0, .int .i64 0, .int .i64 0, .int .i64 0, .int .i64 0, .int .i64 0, .slice none 0 0] hWf
    clear hWf y0 y1 y2 y3 y4 y5 y6 y7 f0 f1 f2 f3 f4 f5 f6 f7
    have o0 : Wf.cell? ⟨w.heap.size, 0, none⟩ = _ := hYf.cell (i := 0) rfl
    have o1 : Wf.cell? ⟨w.heap.size, 1, none⟩ = _ := hYf.cell (i := 1) rfl
    have o2 : Wf.cell? ⟨w.heap.size, 2, none⟩ = _ := hYf.cell (i := 2) rfl
    have o3 : Wf.cell? ⟨w.heap.size, 3, none⟩ = _ := hYf.cell (i := 3) rfl
    have o4 : Wf.cell? ⟨w.heap.size, 4, none⟩ = _ := hYf.cell (i := 4) rfl
    have o5 : Wf.cell? ⟨w.heap.size, 5, none⟩ = _ := hYf.cell (i := 5) rfl
    have o6 : Wf.cell? ⟨w.heap.size, 6, none⟩ = _ := hYf.cell (i := 6) rfl
    have o7 : Wf.cell? ⟨w.heap.size, 7, none⟩ = _ := hYf.cell (i := 7) rfl
    refine bodyPost_ret (v := .tuple #[.agg #[.slice none 0 0, .slice none 0 0, .int .i64 0, .int .i64 0, .int .i64 0, .int .i64 0, .int .i64 0, .slice none 0 0], .bool false]) (by simp [results, Try.results49, go_sem, o0, o1, o2, o3, o4, o5, o6, o7]) rfl ?_
    exact ⟨_, rfl, lz_at _, hbw0.trans (hbf.old hbw0.size (by simp))⟩
  go_wp2_with fail
  refine (C2.out _).mono ?_; rintro r w9 ⟨rfl, rfl⟩
  cases b2
  · have hx := He.out
    simp only [Bool.and_false, Bool.false_eq_true, if_false] at hx
    obtain ⟨rfl, rfl⟩ : l0 = Led.zero ∧ er = false := by simpa using hx
    have y0 : W0.cell? ⟨w.heap.size, 0, none⟩ = _ := hR0.cell (i := 0) rfl
    have y1 : W0.cell? ⟨w.heap.size, 1, none⟩ = _ := hR0.cell (i := 1) rfl
    have y2 : W0.cell? ⟨w.heap.size, 2, none⟩ = _ := hR0.cell (i := 2) rfl
    have y3 : W0.cell? ⟨w.heap.size, 3, none⟩ = _ := hR0.cell (i := 3) rfl
    have y4 : W0.cell? ⟨w.heap.size, 4, none⟩ = _ := hR0.cell (i := 4) rfl
    have y5 : W0.cell? ⟨w.heap.size, 5, none⟩ = _ := hR0.cell (i := 5) rfl
    have y6 : W0.cell? ⟨w.heap.size, 6, none⟩ = _ := hR0.cell (i := 6) rfl
    have y7 : W0.cell? ⟨w.heap.size, 7, none⟩ = _ := hR0.cell (i := 7) rfl
    have f0 := hR0.free 0
    have f1 := hR0.free 1
    have f2 := hR0.free 2
    have f3 := hR0.free 3
    have f4 := hR0.free 4
    have f5 := hR0.free 5
    have f6 := hR0.free 6
    have f7 := hR0.free 7
    go_wp2
    generalize hWf : World.setCell _ _ _ = Wf
    have hYf := hR0.put_eq [.slice none 0 0, .slice none 0 0, .int .i64 0, .int .i64 0, .int .i64 0, .int .i64 0, .int .i64 0, .slice none 0 0] hWf rfl
    have hbf : Dr.Bel [w.heap.size] W0 Wf := bel_put_eq [.slice none 0 0, .slice none 0 0, .int .i64 0, .int .i64 0, .int .i64 0, .int .i64 0, .int .i64 0, .slice none 0 0] hWf
    clear hWf y0 y1 y2 y3 y4 y5 y6 y7 f0 f1 f2 f3 f4 f5 f6 f7
    have o0 : Wf.cell? ⟨w.heap.size, 0, none⟩ = _ := hYf.cell (i := 0) rfl
    have o1 : Wf.cell? ⟨w.heap.size, 1, none⟩ = _ := hYf.cell (i := 1) rfl
    have o2 : Wf.cell? ⟨w.heap.size, 2, none⟩ = _ := hYf.cell (i := 2) rfl
    have o3 : Wf.cell? ⟨w.heap.size, 3, none⟩ = _ := hYf.cell (i := 3) rfl
    have o4 : Wf.cell? ⟨w.heap.size, 4, none⟩ = _ := hYf.cell (i := 4) rfl
    have o5 : Wf.cell? ⟨w.heap.size, 5, none⟩ = _ := hYf.cell (i := 5) rfl
    have o6 : Wf.cell? ⟨w.heap.size, 6, none⟩ = _ := hYf.cell (i := 6) rfl
    have o7 : Wf.cell? ⟨w.heap.size, 7, none⟩ = _ := hYf.cell (i := 7) rfl
    refine bodyPost_ret (v := .tuple #[.agg #[.slice none 0 0, .slice none 0 0, .int .i64 0, .int .i64 0, .int .i64 0, .int .i64 0, .int .i64 0, .slice none 0 0], .bool false]) (by simp [results, Try.results49, go_sem, o0, o1, o2, o3, o4, o5, o6, o7]) rfl ?_
    exact ⟨_, rfl, lz_at _, hbw0.trans (hbf.old hbw0.size (by simp))⟩
  have hx := He.out
  simp only [Bool.and_true, if_true] at hx
  have Hx := Lib.hid hx
  clear hx He
  have hom := of_decide_eq_true (show decide (0 ≤ o ∧ o ≤ 1000000000000) = true from Hb2.out)
  go_wp2
  go_loopw [6] (fun x wr => ∃ k : Nat, x = .int .i64 k ∧ k ≤ n ∧ Hid (∀ j (hj : j < wins.length), j < k → monB wins[j] = true) ∧ W0 = wr) (fun x _ => n - (intOf x).toNat)
  case atStart => exact ⟨0, rfl, by omega, Lib.hid (fun j _ h => by omega), rfl⟩
  case round =>
    obtain ⟨k, rfl, hk, Hk, rfl⟩ := hrel
    by_cases hlt : k < n
    · have hlt' : (k : Int) < n := by omega
      have hk1 : k < wins.length := by rw [Hn.out]; exact hlt
      obtain ⟨b, off, rfl, -, c0⟩ := hA0.at1 hk1 rfl
      have Hall := Lib.hid (fun (h : monB wins[k] = false) => (show wins.all monB = false from List.all_eq_false.2 ⟨_, List.getElem_mem hk1, by rw [h]; simp⟩))
      have Hno := Lib.hid (fun (h : monB wins[k] = true) j (hj : j < wins.length) (hjk : j < k + 1) => if e : j < k then Hk.out j hj e else (show monB wins[j] = true by have e2 : j = k := (by omega); subst e2; exact h))
      generalize wins[k] = x at *
      have C3 := Lib.hid (fun W => moneyR_any x W)
      generalize hb3 : monB x = b3 at *
      have Hb3 := Lib.hid hb3
      clear hb3
      go_wp2_with fail
      refine (C3.out _).mono ?_; rintro r w9 ⟨rfl, rfl⟩
      cases b3
      · have hx := Hx.out
        rw [Hall.out rfl] at hx
        simp only [Bool.false_eq_true, if_false] at hx
        obtain ⟨rfl, rfl⟩ : l0 = Led.zero ∧ er = false := by simpa using hx
        have y0 : W0.cell? ⟨w.heap.size, 0, none⟩ = _ := hR0.cell (i := 0) rfl
        have y1 : W0.cell? ⟨w.heap.size, 1, none⟩ = _ := hR0.cell (i := 1) rfl
        have y2 : W0.cell? ⟨w.heap.size, 2, none⟩ = _ := hR0.cell (i := 2) rfl
        have y3 : W0.cell? ⟨w.heap.size, 3, none⟩ = _ := hR0.cell (i := 3) rfl
        have y4 : W0.cell? ⟨w.heap.size, 4, none⟩ = _ := hR0.cell (i := 4) rfl
        have y5 : W0.cell? ⟨w.heap.size, 5, none⟩ = _ := hR0.cell (i := 5) rfl
        have y6 : W0.cell? ⟨w.heap.size, 6, none⟩ = _ := hR0.cell (i := 6) rfl
        have y7 : W0.cell? ⟨w.heap.size, 7, none⟩ = _ := hR0.cell (i := 7) rfl
        have f0 := hR0.free 0
        have f1 := hR0.free 1
        have f2 := hR0.free 2
        have f3 := hR0.free 3
        have f4 := hR0.free 4
        have f5 := hR0.free 5
        have f6 := hR0.free 6
        have f7 := hR0.free 7
        go_wp2
        generalize hWf : World.setCell _ _ _ = Wf
        have hYf := hR0.put_eq [.slice none 0 0, .slice none 0 0, .int .i64 0, .int .i64 0, .int .i64 0, .int .i64 0, .int .i64 0, .slice none 0 0] hWf rfl
        have hbf : Dr.Bel [w.heap.size] W0 Wf := bel_put_eq [.slice none 0 0, .slice none 0 0, .int .i64 0, .int .i64 0, .int .i64 0, .int .i64 0, .int .i64 0, .slice none 0 0] hWf
        clear hWf y0 y1 y2 y3 y4 y5 y6 y7 f0 f1 f2 f3 f4 f5 f6 f7
        have o0 : Wf.cell? ⟨w.heap.size, 0, none⟩ = _ := hYf.cell (i := 0) rfl
        have o1 : Wf.cell? ⟨w.heap.size, 1, none⟩ = _ := hYf.cell (i := 1) rfl
        have o2 : Wf.cell? ⟨w.heap.size, 2, none⟩ = _ := hYf.cell (i := 2) rfl
        have o3 : Wf.cell? ⟨w.heap.size, 3, none⟩ = _ := hYf.cell (i := 3) rfl
        have o4 : Wf.cell? ⟨w.heap.size, 4, none⟩ = _ := hYf.cell (i := 4) rfl
        have o5 : Wf.cell? ⟨w.heap.size, 5, none⟩ = _ := hYf.cell (i := 5) rfl
        have o6 : Wf.cell? ⟨w.heap.size, 6, none⟩ = _ := hYf.cell (i := 6) rfl
        have o7 : Wf.cell? ⟨w.heap.size, 7, none⟩ = _ := hYf.cell (i := 7) rfl
        refine bodyPost_ret (v := .tuple #[.agg #[.slice none 0 0, .slice none 0 0, .int .i64 0, .int .i64 0, .int .i64 0, .int .i64 0, .int .i64 0, .slice none 0 0], .bool false]) (by simp [results, Try.results49, go_sem, o0, o1, o2, o3, o4, o5, o6, o7]) rfl ?_
        exact ⟨_, rfl, lz_at _, hbw0.trans (hbf.old hbw0.size (by simp))⟩
      · have HN := Lib.hid (Hno.out rfl)
        go_wp2
        go_roundw
        case rel => exact ⟨k + 1, by go_num, by omega, HN, trivial⟩
        case measure => simp [intOf]; omega
    · obtain rfl : k = n := by omega
      have hall : wins.all monB = true := by
        rw [List.all_eq_true]
        intro y hy
        obtain ⟨j, hj, rfl⟩ := List.getElem_of_mem hy
        exact Hk.out j hj (by rw [← Hn.out]; exact hj)
      have hx := Hx.out
      rw [hall] at hx
      simp only [if_true] at hx
      have Hx2 := Lib.hid hx
      have hwm : ∀ y ∈ wins, 0 ≤ y ∧ y ≤ 1000000000000 := fun y hy => of_decide_eq_true (show decide (0 ≤ y ∧ y ≤ 1000000000000) = true from List.all_eq_true.1 hall y hy)
      clear hx Hx hall
      have ho0 : OwnL W0 W0.heap.size 3 1 encI (.slice none 0 0) ([] : List Int) := OwnL.nil
      go_upto_region 9 with (at_builtin; refine app_ints 27 3 et27 rfl _ _ rfl W0.heap.size _ [] rfl ho0 A k c wins Hn.out rfl hA0 (by simp; omega) (Nat.le_refl _) ?_; intro v1 W1 hown hb1 _ _; rw [List.nil_append] at hown; obtain ⟨A1, c1, rfl, -, -, hC1⟩ := hown.cells encI_len; rw [Hn.out])
      have hP := Blk.new W1 75 [.slice A1 k c1, .slice none 0 0, .int .i64 o, .int .i64 0, .int .i64 0, .int .i64 0, .int .i64 0, .slice none 0 0]
      have hal := ext_alloc W1 (.cells #[.slice A1 k c1, .slice none 0 0, .int .i64 o, .int .i64 0, .int .i64 0, .int .i64 0, .int .i64 0, .slice none 0 0] 75)
      have hb2 := ext_trans hb1 hal
      have hC2 := hC1.ext hal
      have hR2 := hR0.ext hb2
      change Blk (W1.alloc (.cells #[.slice A1 k c1, .slice none 0 0, .int .i64 o, .int .i64 0, .int .i64 0, .int .i64 0, .int .i64 0, .slice none 0 0] 75)) _ _ _ at hP
      have hPg : w.heap.size < W1.heap.size := Nat.lt_of_lt_of_le hR0.lt hb1.size
      have hP0 : W0.heap.size ≤ W1.heap.size := hb1.size
      have hAg := hown.block_ge rfl
      generalize W1.alloc (.cells #[.slice A1 k c1, .slice none 0 0, .int .i64 o, .int .i64 0, .int .i64 0, .int .i64 0, .int .i64 0, .slice none 0 0] 75) = W2 at *
      generalize W1.heap.size = P at *
      clear hown hb1 hal hC1 ho0
      have hbw2 := ext_trans hbw0 hb2
      have hM : LedM W2 ⟨wins, [], o, 0, 0, 0, 0, []⟩ A1 k none 0 none 0 := ⟨Hn.out, rfl, rfl, h9, by omega, by omega, hC2, fun i x h => by simp at h, fun i x h => by simp at h⟩
      have CT := Lib.hid (TotalR_any ⟨wins, [], o, 0, 0, 0, 0, []⟩ A1 k c1 none 0 0 none 0 0 W2 hM ⟨hom, by simp, by simp, by simp, hwm, fun b hb => by simp at hb⟩)
      have htot : Led.total ⟨wins, [], o, 0, 0, 0, 0, []⟩ = o + isum wins := by simp [Led.total, isum]
      rw [htot] at CT
      unfold ledV at CT
      have C5 := Lib.hid (fun W => moneyR_any (o + isum wins) W)
      generalize hb5 : monB (o + isum wins) = b5 at *
      generalize o + isum wins = tot at *
      clear hb5 htot hM
      have hPl := hP.lt
      have x0 : W2.cell? ⟨P, 0, none⟩ = _ := hP.cell (i := 0) rfl
      have x1 : W2.cell? ⟨P, 1, none⟩ = _ := hP.cell (i := 1) rfl
      have x2 : W2.cell? ⟨P, 2, none⟩ = _ := hP.cell (i := 2) rfl
      have x3 : W2.cell? ⟨P, 3, none⟩ = _ := hP.cell (i := 3) rfl
      have x4 : W2.cell? ⟨P, 4, none⟩ = _ := hP.cell (i := 4) rfl
      have x5 : W2.cell? ⟨P, 5, none⟩ = _ := hP.cell (i := 5) rfl
      have x6 : W2.cell? ⟨P, 6, none⟩ = _ := hP.cell (i := 6) rfl
      have x7 : W2.cell? ⟨P, 7, none⟩ = _ := hP.cell (i := 7) rfl
      go_wp2_with fail
      refine CT.out.mono ?_; rintro r W3 ⟨rfl, hb3⟩
      have hbw3 := ext_trans hbw2 hb3
      have hR3 := hR2.ext hb3
      have hP3 := hP.ext hb3
      have hC3 := hC2.ext hb3
      clear x0 x1 x2 x3 x4 x5 x6 x7 hb2 hb3 hbw2 hR2 hP hC2 CT
      have p4 : W3.cell? ⟨P, 4, none⟩ = _ := hP3.cell (i := 4) rfl
      have pf := hP3.free 4
      go_upto_region 10 with fail
      have hP4 := hP3.set 4 (.int .i64 tot)
      have hbl : Dr.Bel [P] W3 (W3.setCell ⟨P, 4, none⟩ (.int .i64 tot)) := Dr.Bel.store (by simp) _
      generalize W3.setCell ⟨P, 4, none⟩ (.int .i64 tot) = W4 at *
      clear p4 pf
      have hR4 := hbl.blk hR3 (by simp; omega)
      have hbw4 : Below w.heap.size w W4 := hbw3.trans (hbl.old hbw3.size (by simp; omega))
      simp only [List.set_cons_succ, List.set_cons_zero] at hP4
      have hC4 := cells_bel hC3 hbl (fun z hz => by have := (hAg z hz).2; simp; omega)
      have p4 : W4.cell? ⟨P, 4, none⟩ = _ := hP4.cell (i := 4) rfl
      go_wp2_with fail
      refine (C5.out _).mono ?_; rintro r w9 ⟨rfl, rfl⟩
      clear p4
      cases b5
      · have hx := Hx2.out
        simp only [Bool.false_eq_true, if_false] at hx
        obtain ⟨rfl, rfl⟩ : l0 = Led.zero ∧ er = false := by simpa using hx
        have y0 : W4.cell? ⟨w.heap.size, 0, none⟩ = _ := hR4.cell (i := 0) rfl
        have y1 : W4.cell? ⟨w.heap.size, 1, none⟩ = _ := hR4.cell (i := 1) rfl
        have y2 : W4.cell? ⟨w.heap.size, 2, none⟩ = _ := hR4.cell (i := 2) rfl
        have y3 : W4.cell? ⟨w.heap.size, 3, none⟩ = _ := hR4.cell (i := 3) rfl
        have y4 : W4.cell? ⟨w.heap.size, 4, none⟩ = _ := hR4.cell (i := 4) rfl
        have y5 : W4.cell? ⟨w.heap.size, 5, none⟩ = _ := hR4.cell (i := 5) rfl
        have y6 : W4.cell? ⟨w.heap.size, 6, none⟩ = _ := hR4.cell (i := 6) rfl
        have y7 : W4.cell? ⟨w.heap.size, 7, none⟩ = _ := hR4.cell (i := 7) rfl
        have f0 := hR4.free 0
        have f1 := hR4.free 1
        have f2 := hR4.free 2
        have f3 := hR4.free 3
        have f4 := hR4.free 4
        have f5 := hR4.free 5
        have f6 := hR4.free 6
        have f7 := hR4.free 7
        go_wp2
        generalize hWf : World.setCell _ _ _ = Wf
        have hYf := hR4.put_eq [.slice none 0 0, .slice none 0 0, .int .i64 0, .int .i64 0, .int .i64 0, .int .i64 0, .int .i64 0, .slice none 0 0] hWf rfl
        have hbf : Dr.Bel [w.heap.size] W4 Wf := bel_put_eq [.slice none 0 0, .slice none 0 0, .int .i64 0, .int .i64 0, .int .i64 0, .int .i64 0, .int .i64 0, .slice none 0 0] hWf
        clear hWf y0 y1 y2 y3 y4 y5 y6 y7 f0 f1 f2 f3 f4 f5 f6 f7
        have o0 : Wf.cell? ⟨w.heap.size, 0, none⟩ = _ := hYf.cell (i := 0) rfl
        have o1 : Wf.cell? ⟨w.heap.size, 1, none⟩ = _ := hYf.cell (i := 1) rfl
        have o2 : Wf.cell? ⟨w.heap.size, 2, none⟩ = _ := hYf.cell (i := 2) rfl
        have o3 : Wf.cell? ⟨w.heap.size, 3, none⟩ = _ := hYf.cell (i := 3) rfl
        have o4 : Wf.cell? ⟨w.heap.size, 4, none⟩ = _ := hYf.cell (i := 4) rfl
        have o5 : Wf.cell? ⟨w.heap.size, 5, none⟩ = _ := hYf.cell (i := 5) rfl
        have o6 : Wf.cell? ⟨w.heap.size, 6, none⟩ = _ := hYf.cell (i := 6) rfl
        have o7 : Wf.cell? ⟨w.heap.size, 7, none⟩ = _ := hYf.cell (i := 7) rfl
        refine bodyPost_ret (v := .tuple #[.agg #[.slice none 0 0, .slice none 0 0, .int .i64 0, .int .i64 0, .int .i64 0, .int .i64 0, .int .i64 0, .slice none 0 0], .bool false]) (by simp [results, Try.results49, go_sem, o0, o1, o2, o3, o4, o5, o6, o7]) rfl ?_
        exact ⟨_, rfl, lz_at _, hbw4.trans (hbf.old hbw4.size (by simp))⟩
      have hx := Hx2.out
      simp only [if_true, Prod.mk.injEq] at hx
      obtain ⟨rfl, rfl⟩ := hx
      have p0 : W4.cell? ⟨P, 0, none⟩ = _ := hP4.cell (i := 0) rfl
      have p1 : W4.cell? ⟨P, 1, none⟩ = _ := hP4.cell (i := 1) rfl
      have p2 : W4.cell? ⟨P, 2, none⟩ = _ := hP4.cell (i := 2) rfl
      have p3 : W4.cell? ⟨P, 3, none⟩ = _ := hP4.cell (i := 3) rfl
      have p4 : W4.cell? ⟨P, 4, none⟩ = _ := hP4.cell (i := 4) rfl
      have p5 : W4.cell? ⟨P, 5, none⟩ = _ := hP4.cell (i := 5) rfl
      have p6 : W4.cell? ⟨P, 6, none⟩ = _ := hP4.cell (i := 6) rfl
      have p7 : W4.cell? ⟨P, 7, none⟩ = _ := hP4.cell (i := 7) rfl
      have y0 : W4.cell? ⟨w.heap.size, 0, none⟩ = _ := hR4.cell (i := 0) rfl
      have y1 : W4.cell? ⟨w.heap.size, 1, none⟩ = _ := hR4.cell (i := 1) rfl
      have y2 : W4.cell? ⟨w.heap.size, 2, none⟩ = _ := hR4.cell (i := 2) rfl
      have y3 : W4.cell? ⟨w.heap.size, 3, none⟩ = _ := hR4.cell (i := 3) rfl
      have y4 : W4.cell? ⟨w.heap.size, 4, none⟩ = _ := hR4.cell (i := 4) rfl
      have y5 : W4.cell? ⟨w.heap.size, 5, none⟩ = _ := hR4.cell (i := 5) rfl
      have y6 : W4.cell? ⟨w.heap.size, 6, none⟩ = _ := hR4.cell (i := 6) rfl
      have y7 : W4.cell? ⟨w.heap.size, 7, none⟩ = _ := hR4.cell (i := 7) rfl
      have f0 := hR4.free 0
      have f1 := hR4.free 1
      have f2 := hR4.free 2
      have f3 := hR4.free 3
      have f4 := hR4.free 4
      have f5 := hR4.free 5
      have f6 := hR4.free 6
      have f7 := hR4.free 7
      go_wp2
      generalize hWf : World.setCell _ _ _ = Wf
      have hYf := hR4.put_eq [.slice A1 k c1, .slice none 0 0, .int .i64 o, .int .i64 0, .int .i64 tot, .int .i64 0, .int .i64 0, .slice none 0 0] hWf rfl
      have hbf : Dr.Bel [w.heap.size] W4 Wf := bel_put_eq [.slice A1 k c1, .slice none 0 0, .int .i64 o, .int .i64 0, .int .i64 tot, .int .i64 0, .int .i64 0, .slice none 0 0] hWf
      clear hWf y0 y1 y2 y3 y4 y5 y6 y7 f0 f1 f2 f3 f4 f5 f6 f7
      have o0 : Wf.cell? ⟨w.heap.size, 0, none⟩ = _ := hYf.cell (i := 0) rfl
      have o1 : Wf.cell? ⟨w.heap.size, 1, none⟩ = _ := hYf.cell (i := 1) rfl
      have o2 : Wf.cell? ⟨w.heap.size, 2, none⟩ = _ := hYf.cell (i := 2) rfl
      have o3 : Wf.cell? ⟨w.heap.size, 3, none⟩ = _ := hYf.cell (i := 3) rfl
      have o4 : Wf.cell? ⟨w.heap.size, 4, none⟩ = _ := hYf.cell (i := 4) rfl
      have o5 : Wf.cell? ⟨w.heap.size, 5, none⟩ = _ := hYf.cell (i := 5) rfl
      have o6 : Wf.cell? ⟨w.heap.size, 6, none⟩ = _ := hYf.cell (i := 6) rfl
      have o7 : Wf.cell? ⟨w.heap.size, 7, none⟩ = _ := hYf.cell (i := 7) rfl
      refine bodyPost_ret (v := .tuple #[.agg #[.slice A1 k c1, .slice none 0 0, .int .i64 o, .int .i64 0, .int .i64 tot, .int .i64 0, .int .i64 0, .slice none 0 0], .bool true]) (by simp [results, Try.results49, go_sem, o0, o1, o2, o3, o4, o5, o6, o7]) rfl ?_
      exact ⟨_, rfl, ⟨A1, k, c1, none, 0, 0, none, 0, 0, rfl, ⟨Hn.out, rfl, rfl, h9, by omega, by omega, cells_bel hC4 hbf (fun z hz => by have := (hAg z hz).1; have := hR0.lt; simp; omega), fun i x h => by simp at h, fun i x h => by simp at h⟩⟩, hbw4.trans (hbf.old hbw4.size (by simp))⟩
end Go.Proofs.Ytnjdlhhgnamigaa

/- Walk: is a bag right; is a ledger valid. -/
import Derived.Test.YtnjdlhhgnamigaaGreatLedB
namespace Go.Proofs.YtnjdlhhgnamigaaGreat
open Go.RowKit Go.Bs Go.Pu Go.Pl Go.Sort

/-- a ledger in memory -/
structure LedM (w : World) (l : Led) (A : Option Addr) (n : Nat) (B : Option Addr) (m : Nat) (D : Option Addr) (q : Nat) : Prop where
  hn : l.windows.length = n
  hm : l.bags.length = m
  hq : l.diffs.length = q
  n9 : n ≤ 1000
  m9 : m ≤ 1000
  q9 : q ≤ 1000
  a : Cells w A 1 encI l.windows
  b : Cells w B 6 Bag.enc l.bags
  d : Cells w D 3 Dif.enc l.diffs
theorem LedM.ext {w w' : World} {l : Led} {A : Option Addr} {n : Nat} {B : Option Addr} {m : Nat} {D : Option Addr} {q : Nat} (h : LedM w l A n B m D q) (hb : Below w.heap.size w w') : LedM w' l A n B m D q :=
  ⟨h.hn, h.hm, h.hq, h.n9, h.m9, h.q9, h.a.ext hb, h.b.ext hb, h.d.ext hb⟩
def LedAt (w : World) (v : Value) (l : Led) : Prop := ∃ A n c B m d D q e, v = ledV A n c B m d l.office l.bank l.begun l.inn l.out D q e ∧ LedM w l A n B m D q
theorem LedAt.ext {w w' : World} {v : Value} {l : Led} (h : LedAt w v l) (hb : Below w.heap.size w w') : LedAt w' v l := by
  obtain ⟨A, n, c, B, m, d, D, q, e, h1, h2⟩ := h
  exact ⟨A, n, c, B, m, d, D, q, e, h1, h2.ext hb⟩

theorem found_ok (l : List Dif) (i : Int) (S : Nat) (w : World) (hS : Blk w S 3 [.int .i64 i]) : PredB Tryz.prog 76 #[.pointer (some ⟨S, 0, none⟩)] Dif.val (fun d => d.bag == i) w l := by
  intro W x hx hb
  have hS' := hS.ext hb
  have s0 : W.cell? ⟨S, 0, none⟩ = _ := hS'.cell (i := 0) rfl
  have hlt := hS'.lt
  show Calls Tryz.prog 76 #[Dif.val x, .pointer (some ⟨S, 0, none⟩)] W fun e w' => e = .returned (.bool (x.bag == i)) ∧ Below W.heap.size W w'
  obtain ⟨x0, x1, x2⟩ := x
  unfold Dif.val
  clear hx hb hS hS'
  go_enter Tryz.func76, Tryz.ntmps76
  go_wp2
  go_ret
  exact ⟨rfl, ext_alloc _ _⟩

set_option maxRecDepth 100000 in
set_option maxHeartbeats 4000000 in
theorem bag_any (l : Led) (A : Option Addr) (n c : Nat) (B : Option Addr) (m d : Nat) (D : Option Addr) (q e : Nat) (i : Nat) (w : World) (hL : LedM w l A n B m D q) (hi : i < m) :
    Calls Tryz.prog 51 #[ledV A n c B m d l.office l.bank l.begun l.inn l.out D q e, .int .i64 i] w fun r w' => r = .returned (.bool (l.bagB i)) ∧ Below w.heap.size w w' := by
  obtain ⟨hn, hm, hq, n9, m9, q9, ha, hB, hD⟩ := hL
  have hil : i < l.bags.length := by omega
  have hgd : l.bags.getD i default = l.bags[i] := by simp [hil]
  have hs1 : ∀ s, l.sealed s i = (othL l.bags i m).any (fun b => b.has s) := fun s => by rw [← hm]; exact sealed_oth l s i
  have hbb : l.bagB i = (decide (0 ≤ l.bags[i].window ∧ l.bags[i].window ≤ (n : Int) - 1) && (sealB l.bags[i].sl && (sealB l.bags[i].now && (monB l.bags[i].written && (monB l.bags[i].holds && (!(othL l.bags i m).any (fun b => b.has l.bags[i].sl) && (!(othL l.bags i m).any (fun b => b.has l.bags[i].now) &&
      !(l.bags[i].opened && (l.bags[i].holds != 0 || (l.bags[i].broken && !l.diffs.any fun d => d.bag == (i : Int))))))))))) := by
    unfold Led.bagB
    simp only [hgd, hn, hs1]
    rfl
  rw [hbb]
  clear hbb hs1 hgd
  obtain ⟨b, off, rfl, hltB, c0, c1, c2, c3, c4, c5⟩ := hB.at6 hil rfl
  have hb0 : Below w.heap.size w ((w.alloc (.cells (ledC A n c (some ⟨b, off, none⟩) m d l.office l.bank l.begun l.inn l.out D q e).toArray 34)).alloc (.cells #[.int .i64 i] 3)) := ((Below.refl _ _).alloc (Nat.le_refl _) _).alloc (by simp) _
  have hX := (Blk.new w 34 (ledC A n c (some ⟨b, off, none⟩) m d l.office l.bank l.begun l.inn l.out D q e)).alloc (.cells #[.int .i64 i] 3)
  have hI := Blk.new (w.alloc (.cells (ledC A n c (some ⟨b, off, none⟩) m d l.office l.bank l.begun l.inn l.out D q e).toArray 34)) 3 [.int .i64 i]
  rw [World.size_alloc] at hI
  have hsz : ((w.alloc (.cells (ledC A n c (some ⟨b, off, none⟩) m d l.office l.bank l.begun l.inn l.out D q e).toArray 34)).alloc (.cells #[.int .i64 i] 3)).heap.size = w.heap.size + 2 := by simp
  have CS := Lib.hid (fun s W hW => sealed_any l.bags A n c (some ⟨b, off, none⟩) m d l.office l.bank l.begun l.inn l.out D q e s i W hm (by omega) (hB.ext hW))
  have CF := Lib.hid (fun S W hW hS => contains_dif 76 #[.pointer (some ⟨S, 0, none⟩)] (fun d => d.bag == (i : Int)) D q e l.diffs W (enters_of Tryz.func76 (by kernel_rfl) rfl) hq (by omega) (hD.ext hW) (found_ok l.diffs i S W hS))
  have Hm := Lib.hid hm
  generalize (l.diffs.any fun d => d.bag == (i : Int)) = fnd at *
  generalize l.bags[i] = x at *
  obtain ⟨x0, x1, x2, x3, x4, x5⟩ := x
  simp only at c0 c1 c2 c3 c4 c5 ⊢
  have C1 := Lib.hid (fun W => within_any x0 0 ((n : Int) - 1) W)
  have C2 := Lib.hid (fun W => seal_any x1 W)
  have C3 := Lib.hid (fun W => seal_any x4 W)
  have C4 := Lib.hid (fun W => money_any x2 W)
  have C5 := Lib.hid (fun W => money_any x3 W)
  have C6 := Lib.hid (fun W hW => CS.out x1 W hW)
  have C7 := Lib.hid (fun W hW => CS.out x4 W hW)
  have C8 := Lib.hid (fun W => broken_any ⟨x0, x1, x2, x3, x4, x5⟩ W)
  unfold Bag.val at C8
  simp only at C8
  generalize decide (0 ≤ x0 ∧ x0 ≤ (n : Int) - 1) = b1 at *
  generalize sealB x1 = b2 at *
  generalize sealB x4 = b3 at *
  generalize monB x2 = b4 at *
  generalize monB x3 = b5 at *
  generalize (othL l.bags i m).any (fun b => b.has x1) = b6 at *
  generalize (othL l.bags i m).any (fun b => b.has x4) = b7 at *
  generalize Bag.broken ⟨x0, x1, x2, x3, x4, x5⟩ = b8 at *
  unfold ledV ledC at *
  clear CS hB hD ha hm hn hq hil Hm
  generalize l.office = lo at *
  generalize l.bank = lk at *
  generalize l.begun = lg at *
  generalize l.inn = li at *
  generalize l.out = lt at *
  go_enter Tryz.func51, Tryz.ntmps51
  go_upto_region 1 with fail
  change Below w.heap.size w ((w.alloc (.cells #[.slice A n c, .slice (some ⟨b, off, none⟩) m d, .int .i64 lo, .int .i64 lk, .int .i64 lg, .int .i64 li, .int .i64 lt, .slice D q e] 34)).alloc (.cells #[.int .i64 i] 3)) at hb0
  change Blk ((w.alloc (.cells #[.slice A n c, .slice (some ⟨b, off, none⟩) m d, .int .i64 lo, .int .i64 lk, .int .i64 lg, .int .i64 li, .int .i64 lt, .slice D q e] 34)).alloc (.cells #[.int .i64 i] 3)) _ _ _ at hX
  change Blk ((w.alloc (.cells #[.slice A n c, .slice (some ⟨b, off, none⟩) m d, .int .i64 lo, .int .i64 lk, .int .i64 lg, .int .i64 li, .int .i64 lt, .slice D q e] 34)).alloc (.cells #[.int .i64 i] 3)) _ _ _ at hI
  change ((w.alloc (.cells #[.slice A n c, .slice (some ⟨b, off, none⟩) m d, .int .i64 lo, .int .i64 lk, .int .i64 lg, .int .i64 li, .int .i64 lt, .slice D q e] 34)).alloc (.cells #[.int .i64 i] 3)).heap.size = _ at hsz
  generalize (w.alloc (.cells #[.slice A n c, .slice (some ⟨b, off, none⟩) m d, .int .i64 lo, .int .i64 lk, .int .i64 lg, .int .i64 li, .int .i64 lt, .slice D q e] 34)).alloc (.cells #[.int .i64 i] 3) = W0 at *
  have x0' : W0.cell? ⟨w.heap.size, 1, none⟩ = _ := hX.cell (i := 1) rfl
  have i0 : W0.cell? ⟨w.heap.size + 1, 0, none⟩ = _ := hI.cell (i := 0) rfl
  have d0 := cell_ext c0 hb0
  have d1 := cell_ext c1 hb0
  have d2 := cell_ext c2 hb0
  have d3 := cell_ext c3 hb0
  have d4 := cell_ext c4 hb0
  have d5 := cell_ext c5 hb0
  have hi' : (i : Int) < (m : Int) := by omega
  go_upto_region 2 with fail
  have hY := Blk.new W0 80 [.int .i64 x0, .int .i64 x1, .int .i64 x2, .int .i64 x3, .int .i64 x4, .bool x5]
  have hb1 := hb0.alloc (by omega) (.cells #[.int .i64 x0, .int .i64 x1, .int .i64 x2, .int .i64 x3, .int .i64 x4, .bool x5] 80)
  have hX1 := hX.alloc (.cells #[.int .i64 x0, .int .i64 x1, .int .i64 x2, .int .i64 x3, .int .i64 x4, .bool x5] 80)
  have hI1 := hI.alloc (.cells #[.int .i64 x0, .int .i64 x1, .int .i64 x2, .int .i64 x3, .int .i64 x4, .bool x5] 80)
  rw [hsz] at hY
  clear hX hI hb0 x0' i0 d0 d1 d2 d3 d4 d5 c0 c1 c2 c3 c4 c5 hi' hltB hsz
  change Blk (W0.alloc (.cells #[.int .i64 x0, .int .i64 x1, .int .i64 x2, .int .i64 x3, .int .i64 x4, .bool x5] 80)) _ _ _ at hY
  generalize W0.alloc (.cells #[.int .i64 x0, .int .i64 x1, .int .i64 x2, .int .i64 x3, .int .i64 x4, .bool x5] 80) = W1 at *
  have e7 : W1.cell? ⟨w.heap.size, 7, none⟩ = _ := hX1.cell (i := 7) rfl
  go_wp2_with fail
  refine (CF.out _ W1 hb1 hI1).mono ?_; rintro r W2 ⟨rfl, hb2⟩
  have hbw2 := ext_trans hb1 hb2
  have hX2 := hX1.ext hb2
  have hI2 := hI1.ext hb2
  have hY2 := hY.ext hb2
  clear hX1 hI1 hY hb1 hb2 e7 CF
  have x_0 : W2.cell? ⟨w.heap.size, 0, none⟩ = _ := hX2.cell (i := 0) rfl
  have x_1 : W2.cell? ⟨w.heap.size, 1, none⟩ = _ := hX2.cell (i := 1) rfl
  have x_2 : W2.cell? ⟨w.heap.size, 2, none⟩ = _ := hX2.cell (i := 2) rfl
  have x_3 : W2.cell? ⟨w.heap.size, 3, none⟩ = _ := hX2.cell (i := 3) rfl
  have x_4 : W2.cell? ⟨w.heap.size, 4, none⟩ = _ := hX2.cell (i := 4) rfl
  have x_5 : W2.cell? ⟨w.heap.size, 5, none⟩ = _ := hX2.cell (i := 5) rfl
  have x_6 : W2.cell? ⟨w.heap.size, 6, none⟩ = _ := hX2.cell (i := 6) rfl
  have x_7 : W2.cell? ⟨w.heap.size, 7, none⟩ = _ := hX2.cell (i := 7) rfl
  have y0 : W2.cell? ⟨w.heap.size + 2, 0, none⟩ = _ := hY2.cell (i := 0) rfl
  have y1 : W2.cell? ⟨w.heap.size + 2, 1, none⟩ = _ := hY2.cell (i := 1) rfl
  have y2 : W2.cell? ⟨w.heap.size + 2, 2, none⟩ = _ := hY2.cell (i := 2) rfl
  have y3 : W2.cell? ⟨w.heap.size + 2, 3, none⟩ = _ := hY2.cell (i := 3) rfl
  have y4 : W2.cell? ⟨w.heap.size + 2, 4, none⟩ = _ := hY2.cell (i := 4) rfl
  have y5 : W2.cell? ⟨w.heap.size + 2, 5, none⟩ = _ := hY2.cell (i := 5) rfl
  have i0 : W2.cell? ⟨w.heap.size + 1, 0, none⟩ = _ := hI2.cell (i := 0) rfl
  go_wp2_with fail
  refine (C1.out _).mono ?_; rintro r w1 ⟨rfl, rfl⟩
  cases b1
  · go_wp2
    go_ret
    exact ⟨rfl, hbw2⟩
  go_wp2_with fail
  refine (C2.out _).mono ?_; rintro r w1 ⟨rfl, rfl⟩
  cases b2
  · go_wp2
    go_ret
    exact ⟨rfl, hbw2⟩
  go_wp2_with fail
  refine (C3.out _).mono ?_; rintro r w1 ⟨rfl, rfl⟩
  cases b3
  · go_wp2
    go_ret
    exact ⟨rfl, hbw2⟩
  go_wp2_with fail
  refine (C4.out _).mono ?_; rintro r w1 ⟨rfl, rfl⟩
  cases b4
  · go_wp2
    go_ret
    exact ⟨rfl, hbw2⟩
  go_wp2_with fail
  refine (C5.out _).mono ?_; rintro r w1 ⟨rfl, rfl⟩
  cases b5
  · go_wp2
    go_ret
    exact ⟨rfl, hbw2⟩
  go_wp2_with fail
  refine (C6.out _ hbw2).mono ?_; rintro r W3 ⟨rfl, hb3⟩
  have hbw3 := ext_trans hbw2 hb3
  have hX3 := hX2.ext hb3
  have hI3 := hI2.ext hb3
  have hY3 := hY2.ext hb3
  clear hX2 hI2 hY2 hbw2 hb3 x_0 x_1 x_2 x_3 x_4 x_5 x_6 x_7 y0 y1 y2 y3 y4 y5 i0
  have x_0 : W3.cell? ⟨w.heap.size, 0, none⟩ = _ := hX3.cell (i := 0) rfl
  have x_1 : W3.cell? ⟨w.heap.size, 1, none⟩ = _ := hX3.cell (i := 1) rfl
  have x_2 : W3.cell? ⟨w.heap.size, 2, none⟩ = _ := hX3.cell (i := 2) rfl
  have x_3 : W3.cell? ⟨w.heap.size, 3, none⟩ = _ := hX3.cell (i := 3) rfl
  have x_4 : W3.cell? ⟨w.heap.size, 4, none⟩ = _ := hX3.cell (i := 4) rfl
  have x_5 : W3.cell? ⟨w.heap.size, 5, none⟩ = _ := hX3.cell (i := 5) rfl
  have x_6 : W3.cell? ⟨w.heap.size, 6, none⟩ = _ := hX3.cell (i := 6) rfl
  have x_7 : W3.cell? ⟨w.heap.size, 7, none⟩ = _ := hX3.cell (i := 7) rfl
  have y0 : W3.cell? ⟨w.heap.size + 2, 0, none⟩ = _ := hY3.cell (i := 0) rfl
  have y1 : W3.cell? ⟨w.heap.size + 2, 1, none⟩ = _ := hY3.cell (i := 1) rfl
  have y2 : W3.cell? ⟨w.heap.size + 2, 2, none⟩ = _ := hY3.cell (i := 2) rfl
  have y3 : W3.cell? ⟨w.heap.size + 2, 3, none⟩ = _ := hY3.cell (i := 3) rfl
  have y4 : W3.cell? ⟨w.heap.size + 2, 4, none⟩ = _ := hY3.cell (i := 4) rfl
  have y5 : W3.cell? ⟨w.heap.size + 2, 5, none⟩ = _ := hY3.cell (i := 5) rfl
  have i0 : W3.cell? ⟨w.heap.size + 1, 0, none⟩ = _ := hI3.cell (i := 0) rfl
  cases b6
  case true =>
    go_wp2
    go_ret
    exact ⟨rfl, hbw3⟩
  go_wp2_with fail
  refine (C7.out _ hbw3).mono ?_; rintro r W4 ⟨rfl, hb4⟩
  have hbw4 := ext_trans hbw3 hb4
  have hY4 := hY3.ext hb4
  clear hX3 hI3 hY3 hbw3 hb4 x_0 x_1 x_2 x_3 x_4 x_5 x_6 x_7 y0 y1 y2 y3 y4 y5 i0
  have y0 : W4.cell? ⟨w.heap.size + 2, 0, none⟩ = _ := hY4.cell (i := 0) rfl
  have y1 : W4.cell? ⟨w.heap.size + 2, 1, none⟩ = _ := hY4.cell (i := 1) rfl
  have y2 : W4.cell? ⟨w.heap.size + 2, 2, none⟩ = _ := hY4.cell (i := 2) rfl
  have y3 : W4.cell? ⟨w.heap.size + 2, 3, none⟩ = _ := hY4.cell (i := 3) rfl
  have y4 : W4.cell? ⟨w.heap.size + 2, 4, none⟩ = _ := hY4.cell (i := 4) rfl
  have y5 : W4.cell? ⟨w.heap.size + 2, 5, none⟩ = _ := hY4.cell (i := 5) rfl
  cases b7
  case true =>
    go_wp2
    go_ret
    exact ⟨rfl, hbw4⟩
  cases x5
  · go_wp2
    go_ret
    exact ⟨rfl, hbw4⟩
  by_cases h3 : x3 = 0
  · have h3' : (x3 != 0) = false := by simp [h3]
    subst h3
    clear h3'
    go_wp2_with fail
    refine (C8.out _).mono ?_; rintro r W5 ⟨rfl, hb5⟩
    have hbw5 := ext_trans hbw4 hb5
    cases b8
    · go_wp2
      go_ret
      exact ⟨rfl, hbw5⟩
    · cases fnd
      · go_wp2
        go_ret
        exact ⟨rfl, hbw5⟩
      · go_wp2
        go_ret
        exact ⟨rfl, hbw5⟩
  · have h3' : (x3 != 0) = true := by simp [h3]
    go_wp2
    go_ret
    exact ⟨by simp [h3'], hbw4⟩
end Go.Proofs.YtnjdlhhgnamigaaGreat

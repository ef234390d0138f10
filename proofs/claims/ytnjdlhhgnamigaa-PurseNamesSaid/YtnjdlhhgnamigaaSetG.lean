/- Walk: parts; whether what a week pays is the reference's. -/
import Derived.Test.YtnjdlhhgnamigaaSetE
namespace Go.Proofs.Ytnjdlhhgnamigaa
open Go.RowKit Go.Bs Go.Pu Go.Pl Go.Sort

theorem part_up {m q : Int} (hm : 0 ≤ m) : m / 1000 * q + (m % 1000 * q + 999) / 1000 = (m * q + 999) / 1000 := by
  have h1 : m * q = m / 1000 * q * 1000 + m % 1000 * q := by
    have h2 := Int.mul_ediv_add_emod m 1000
    have h3 : m * q = (1000 * (m / 1000) + m % 1000) * q := by rw [h2]
    rw [h3, Int.add_mul, Int.mul_comm 1000, Int.mul_assoc, Int.mul_comm 1000, ← Int.mul_assoc]
  rw [h1]
  omega
theorem parts_any (g t : Int) (w : World) (hg : 0 ≤ g ∧ g ≤ 1000000000000000) (ht : 0 ≤ t ∧ t ≤ 1000) :
    Calls Try.prog 65 #[.int .i64 g, .int .i64 t] w fun e w' => e = .returned (.int .i64 ((g * t + 999) / 1000)) ∧ w' = w := by
  have h1 := mul_bd (a := g / 1000) (m := 1000000000000) (by omega) (by omega) ht.1 ht.2
  have h2 := mul_bd (a := g % 1000) (m := 1000) (by omega) (by omega) ht.1 ht.2
  have H := Lib.hid (part_up (q := t) hg.1)
  go_enter Try.func65, Try.ntmps65
  go_wp2
  go_ret
  exact ⟨ret_congr (int_congr H.out), rfl⟩

/-- a pay in memory -/
def payV (v1 v2 : Value) (p l : Int) (v3 v4 v5 : Value) (r : Int) : Value := .agg #[v1, v2, .int .i64 p, .int .i64 l, v3, v4, v5, .int .i64 r]
structure PayAt (w : World) (v : Value) (y : Pay) : Prop where
  ex : ∃ A1 c1 A2 c2 A3 c3 A4 c4 A5 c5, v = payV (.slice A1 y.gross.length c1) (.slice A2 y.taxes.length c2) y.premium y.lacks (.slice A3 y.paid.length c3) (.slice A4 y.short.length c4) (.slice A5 y.extra.length c5) y.rest ∧
    Cells w A1 1 encI y.gross ∧ Cells w A2 1 encI y.taxes ∧ Cells w A3 1 encI y.paid ∧ Cells w A4 1 encI y.short ∧ Cells w A5 1 encI y.extra
structure Pay.small (y : Pay) : Prop where
  l1 : y.gross.length ≤ 1000
  l2 : y.taxes.length ≤ 1000
  l3 : y.paid.length ≤ 1000
  l4 : y.short.length ≤ 1000
  l5 : y.extra.length ≤ 1000
def payEq (a b : Pay) : Bool := decide (a.gross = b.gross) && (decide (a.taxes = b.taxes) && (a.premium == b.premium && (a.lacks == b.lacks && (decide (a.paid = b.paid) && (decide (a.short = b.short) && (decide (a.extra = b.extra) && a.rest == b.rest))))))
theorem payEq_self (a : Pay) : payEq a a = true := by simp [payEq]
theorem PayAt.ext {w w' : World} {v : Value} {y : Pay} (h : PayAt w v y) (hb : Below w.heap.size w w') : PayAt w' v y := by
  obtain ⟨A1, c1, A2, c2, A3, c3, A4, c4, A5, c5, e, h1, h2, h3, h4, h5⟩ := h.ex
  exact ⟨A1, c1, A2, c2, A3, c3, A4, c4, A5, c5, e, h1.ext hb, h2.ext hb, h3.ext hb, h4.ext hb, h5.ext hb⟩

set_option maxRecDepth 100000 in
set_option maxHeartbeats 1000000 in
theorem pays_any (a b : Pay) (u v : Value) (w : World) (ha : PayAt w u a) (hb : PayAt w v b) (sa : Pay.small a) (sb : Pay.small b) :
    Calls Try.prog 20 #[u, v] w fun e w' => e = .returned (.bool (payEq a b)) ∧ Below w.heap.size w w' := by
  obtain ⟨A1, c1, A2, c2, A3, c3, A4, c4, A5, c5, rfl, h1, h2, h3, h4, h5⟩ := ha.ex
  obtain ⟨B1, d1, B2, d2, B3, d3, B4, d4, B5, d5, rfl, k1, k2, k3, k4, k5⟩ := hb.ex
  obtain ⟨l1, l2, l3, l4, l5⟩ := sa
  obtain ⟨m1, m2, m3, m4, m5⟩ := sb
  have C1 := Lib.hid (fun W (hb : Below w.heap.size w W) => ints_any A1 B1 _ _ c1 d1 a.gross b.gross W rfl rfl (by omega) (by omega) (h1.ext hb) (k1.ext hb))
  have C2 := Lib.hid (fun W (hb : Below w.heap.size w W) => ints_any A2 B2 _ _ c2 d2 a.taxes b.taxes W rfl rfl (by omega) (by omega) (h2.ext hb) (k2.ext hb))
  have C3 := Lib.hid (fun W (hb : Below w.heap.size w W) => ints_any A3 B3 _ _ c3 d3 a.paid b.paid W rfl rfl (by omega) (by omega) (h3.ext hb) (k3.ext hb))
  have C4 := Lib.hid (fun W (hb : Below w.heap.size w W) => ints_any A4 B4 _ _ c4 d4 a.short b.short W rfl rfl (by omega) (by omega) (h4.ext hb) (k4.ext hb))
  have C5 := Lib.hid (fun W (hb : Below w.heap.size w W) => ints_any A5 B5 _ _ c5 d5 a.extra b.extra W rfl rfl (by omega) (by omega) (h5.ext hb) (k5.ext hb))
  unfold payEq
  generalize decide (a.gross = b.gross) = b1 at *
  generalize decide (a.taxes = b.taxes) = b2 at *
  generalize decide (a.paid = b.paid) = b3 at *
  generalize decide (a.short = b.short) = b4 at *
  generalize decide (a.extra = b.extra) = b5 at *
  generalize a.gross.length = n1 at *
  generalize a.taxes.length = n2 at *
  generalize a.paid.length = n3 at *
  generalize a.short.length = n4 at *
  generalize a.extra.length = n5 at *
  generalize b.gross.length = q1 at *
  generalize b.taxes.length = q2 at *
  generalize b.paid.length = q3 at *
  generalize b.short.length = q4 at *
  generalize b.extra.length = q5 at *
  generalize a.premium = p1 at *
  generalize b.premium = p2 at *
  generalize a.lacks = s1 at *
  generalize b.lacks = s2 at *
  generalize a.rest = r1 at *
  generalize b.rest = r2 at *
  clear h1 h2 h3 h4 h5 k1 k2 k3 k4 k5 ha hb
  unfold payV
  have hX := Blk.new w 29 [.slice A1 n1 c1, .slice A2 n2 c2, .int .i64 p1, .int .i64 s1, .slice A3 n3 c3, .slice A4 n4 c4, .slice A5 n5 c5, .int .i64 r1]
  have hY := Blk.new (w.alloc (.cells #[.slice A1 n1 c1, .slice A2 n2 c2, .int .i64 p1, .int .i64 s1, .slice A3 n3 c3, .slice A4 n4 c4, .slice A5 n5 c5, .int .i64 r1] 29)) 40 [.slice B1 q1 d1, .slice B2 q2 d2, .int .i64 p2, .int .i64 s2, .slice B3 q3 d3, .slice B4 q4 d4, .slice B5 q5 d5, .int .i64 r2]
  have hX2 := hX.alloc (.cells #[.slice B1 q1 d1, .slice B2 q2 d2, .int .i64 p2, .int .i64 s2, .slice B3 q3 d3, .slice B4 q4 d4, .slice B5 q5 d5, .int .i64 r2] 40)
  have hb0 := ext_trans (ext_alloc w (.cells #[.slice A1 n1 c1, .slice A2 n2 c2, .int .i64 p1, .int .i64 s1, .slice A3 n3 c3, .slice A4 n4 c4, .slice A5 n5 c5, .int .i64 r1] 29)) (ext_alloc _ (.cells #[.slice B1 q1 d1, .slice B2 q2 d2, .int .i64 p2, .int .i64 s2, .slice B3 q3 d3, .slice B4 q4 d4, .slice B5 q5 d5, .int .i64 r2] 40))
  rw [World.size_alloc] at hY
  go_enter Try.func20, Try.ntmps20
  go_upto_region 1 with fail
  change Blk ((w.alloc (.cells #[.slice A1 n1 c1, .slice A2 n2 c2, .int .i64 p1, .int .i64 s1, .slice A3 n3 c3, .slice A4 n4 c4, .slice A5 n5 c5, .int .i64 r1] 29)).alloc (.cells #[.slice B1 q1 d1, .slice B2 q2 d2, .int .i64 p2, .int .i64 s2, .slice B3 q3 d3, .slice B4 q4 d4, .slice B5 q5 d5, .int .i64 r2] 40)) _ _ _ at hY
  change Blk ((w.alloc (.cells #[.slice A1 n1 c1, .slice A2 n2 c2, .int .i64 p1, .int .i64 s1, .slice A3 n3 c3, .slice A4 n4 c4, .slice A5 n5 c5, .int .i64 r1] 29)).alloc (.cells #[.slice B1 q1 d1, .slice B2 q2 d2, .int .i64 p2, .int .i64 s2, .slice B3 q3 d3, .slice B4 q4 d4, .slice B5 q5 d5, .int .i64 r2] 40)) _ _ _ at hX2
  generalize (w.alloc (.cells #[.slice A1 n1 c1, .slice A2 n2 c2, .int .i64 p1, .int .i64 s1, .slice A3 n3 c3, .slice A4 n4 c4, .slice A5 n5 c5, .int .i64 r1] 29)).alloc (.cells #[.slice B1 q1 d1, .slice B2 q2 d2, .int .i64 p2, .int .i64 s2, .slice B3 q3 d3, .slice B4 q4 d4, .slice B5 q5 d5, .int .i64 r2] 40) = W0 at *
  clear hX
  have x0 : W0.cell? ⟨w.heap.size, 0, none⟩ = _ := hX2.cell rfl
  have y0 : W0.cell? ⟨w.heap.size + 1, 0, none⟩ = _ := hY.cell rfl
  go_wp2_with fail
  refine (C1.out _ hb0).mono ?_; rintro e w1 ⟨rfl, hb1⟩
  have hc1 := ext_trans hb0 hb1
  have hX3 := hX2.ext hb1
  have hY3 := hY.ext hb1
  clear x0 y0 hb0 hb1 hX2 hY
  cases b1
  · go_wp2
    go_ret
    exact ⟨rfl, hc1⟩
  have x0 : w1.cell? ⟨w.heap.size, 1, none⟩ = _ := hX3.cell rfl
  have y0 : w1.cell? ⟨w.heap.size + 1, 1, none⟩ = _ := hY3.cell rfl
  go_wp2_with fail
  refine (C2.out _ hc1).mono ?_; rintro e w2 ⟨rfl, hb2⟩
  have hc2 := ext_trans hc1 hb2
  have hX4 := hX3.ext hb2
  have hY4 := hY3.ext hb2
  clear x0 y0 hc1 hb2 hX3 hY3
  cases b2
  · go_wp2
    go_ret
    exact ⟨rfl, hc2⟩
  have x2 : w2.cell? ⟨w.heap.size, 2, none⟩ = _ := hX4.cell rfl
  have y2 : w2.cell? ⟨w.heap.size + 1, 2, none⟩ = _ := hY4.cell rfl
  have x3 : w2.cell? ⟨w.heap.size, 3, none⟩ = _ := hX4.cell rfl
  have y3 : w2.cell? ⟨w.heap.size + 1, 3, none⟩ = _ := hY4.cell rfl
  have x4 : w2.cell? ⟨w.heap.size, 4, none⟩ = _ := hX4.cell rfl
  have y4 : w2.cell? ⟨w.heap.size + 1, 4, none⟩ = _ := hY4.cell rfl
  by_cases e1 : p1 = p2
  · subst e1
    by_cases e2 : s1 = s2
    · subst e2
      go_wp2_with fail
      refine (C3.out _ hc2).mono ?_; rintro e w3 ⟨rfl, hb3⟩
      have hc3 := ext_trans hc2 hb3
      have hX5 := hX4.ext hb3
      have hY5 := hY4.ext hb3
      clear x2 y2 x3 y3 x4 y4 hc2 hb3 hX4 hY4
      cases b3
      · go_wp2
        go_ret
        exact ⟨by simp, hc3⟩
      have x0 : w3.cell? ⟨w.heap.size, 5, none⟩ = _ := hX5.cell rfl
      have y0 : w3.cell? ⟨w.heap.size + 1, 5, none⟩ = _ := hY5.cell rfl
      go_wp2_with fail
      refine (C4.out _ hc3).mono ?_; rintro e w4 ⟨rfl, hb4⟩
      have hc4 := ext_trans hc3 hb4
      have hX6 := hX5.ext hb4
      have hY6 := hY5.ext hb4
      clear x0 y0 hc3 hb4 hX5 hY5
      cases b4
      · go_wp2
        go_ret
        exact ⟨by simp, hc4⟩
      have x0 : w4.cell? ⟨w.heap.size, 6, none⟩ = _ := hX6.cell rfl
      have y0 : w4.cell? ⟨w.heap.size + 1, 6, none⟩ = _ := hY6.cell rfl
      go_wp2_with fail
      refine (C5.out _ hc4).mono ?_; rintro e w5 ⟨rfl, hb5⟩
      have hc5 := ext_trans hc4 hb5
      have hX7 := hX6.ext hb5
      have hY7 := hY6.ext hb5
      clear x0 y0 hc4 hb5 hX6 hY6
      have x0 : w5.cell? ⟨w.heap.size, 7, none⟩ = _ := hX7.cell rfl
      have y0 : w5.cell? ⟨w.heap.size + 1, 7, none⟩ = _ := hY7.cell rfl
      cases b5
      · go_wp2
        go_ret
        exact ⟨by simp, hc5⟩
      go_wp2
      go_ret
      exact ⟨by simp, hc5⟩
    · have e2' : (s1 == s2) = false := by simpa using e2
      go_wp2
      go_ret
      exact ⟨by simp [e2], hc2⟩
  · have e1' : (p1 == p2) = false := by simpa using e1
    go_wp2
    go_ret
    exact ⟨by simp [e1], hc2⟩
end Go.Proofs.Ytnjdlhhgnamigaa

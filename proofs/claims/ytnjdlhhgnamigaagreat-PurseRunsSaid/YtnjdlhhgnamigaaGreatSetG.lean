/- Walk: parts; whether what a week pays is the reference's. -/
import Derived.Test.YtnjdlhhgnamigaaGreatSetE
namespace Go.Proofs.YtnjdlhhgnamigaaGreat
open Go.RowKit Go.Bs Go.Pu Go.Pl Go.Sort

theorem part_up {m q : Int} (hm : 0 ≤ m) : m / 1000 * q + (m % 1000 * q + 999) / 1000 = (m * q + 999) / 1000 := by
  have h1 : m * q = m / 1000 * q * 1000 + m % 1000 * q := by
    have h2 := Int.mul_ediv_add_emod m 1000
    have h3 : m * q = (1000 * (m / 1000) + m % 1000) * q := by rw [h2]
    rw [h3, Int.add_mul, Int.mul_comm 1000, Int.mul_assoc, Int.mul_comm 1000, ← Int.mul_assoc]
  rw [h1]
  omega
/-- a pay in memory -/
def payV (v1 v2 : Value) (p l : Int) (v3 v4 v5 : Value) (r : Int) : Value := .agg #[v1, v2, .int .i64 p, .int .i64 l, v3, v4, v5, .int .i64 r]
structure PayAt (w : World) (v : Value) (y : Pay) : Prop where
  ex : ∃ A1 c1 A2 c2 A3 c3 A4 c4 A5 c5, v = payV (.slice A1 y.gross.length c1) (.slice A2 y.taxes.length c2) y.premium y.lacks (.slice A3 y.paid.length c3) (.slice A4 y.short.length c4) (.slice A5 y.extra.length c5) y.rest ∧
    Cells w A1 1 encI y.gross ∧ Cells w A2 1 encI y.taxes ∧ Cells w A3 1 encI y.paid ∧ Cells w A4 1 encI y.short ∧ Cells w A5 1 encI y.extra
structure Pay.small (y : Pay) : Prop where
  l1 : y.gross.length ≤ 1000
  l2 : y.taxes.length ≤ 1000
  l3 : y.paid.length ≤ 1000
  l4 : y.short.length ≤ 1000
  l5 : y.extra.length ≤ 1000
def payEq (a b : Pay) : Bool := decide (a.gross = b.gross) && (decide (a.taxes = b.taxes) && (a.premium == b.premium && (a.lacks == b.lacks && (decide (a.paid = b.paid) && (decide (a.short = b.short) && (decide (a.extra = b.extra) && a.rest == b.rest))))))
theorem payEq_self (a : Pay) : payEq a a = true := by simp [payEq]
theorem PayAt.ext {w w' : World} {v : Value} {y : Pay} (h : PayAt w v y) (hb : Below w.heap.size w w') : PayAt w' v y := by
  obtain ⟨A1, c1, A2, c2, A3, c3, A4, c4, A5, c5, e, h1, h2, h3, h4, h5⟩ := h.ex
  exact ⟨A1, c1, A2, c2, A3, c3, A4, c4, A5, c5, e, h1.ext hb, h2.ext hb, h3.ext hb, h4.ext hb, h5.ext hb⟩

end Go.Proofs.YtnjdlhhgnamigaaGreat

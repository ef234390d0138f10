/- Walk: the reference's claims. -/
import Derived.Test.YtnjdlhhgnamigaaGreatClmA
namespace Go.Proofs.YtnjdlhhgnamigaaGreat
open Go.RowKit Go.Bs Go.Pu Go.Pl Go.Sort

theorem part_split {m q : Int} (_hm : 0 ≤ m) : m / 1000 * q + m % 1000 * q / 1000 = m * q / 1000 := by
  have h1 : m * q = m / 1000 * q * 1000 + m % 1000 * q := by
    have h2 := Int.mul_ediv_add_emod m 1000
    have h3 : m * q = (1000 * (m / 1000) + m % 1000) * q := by rw [h2]
    rw [h3, Int.add_mul, Int.mul_comm 1000, Int.mul_assoc, Int.mul_comm 1000, ← Int.mul_assoc]
  rw [h1]
  omega

end Go.Proofs.YtnjdlhhgnamigaaGreat

/- How the yard's data lie in memory. -/
import Derived.Test.YtopfhinnamhoiaaBase
import Derived.Test.YtopfhinnamhoiaaSpec
import Derived.Shelf.Abstract
import Derived.Test.YtopfhinnamhoiaaProg
namespace Go.Proofs.Ytopfhinnamhoiaa
open Go.RowKit Go.Bs Go.Yd Go.Pl Go.Sort

def Mkt.enc (m : Mkt) : List Value := [.int .i64 m.need, .int .i64 m.price, .int .i64 m.trip, .bool m.opn]
def Mkt.val (m : Mkt) : Value := .agg #[.int .i64 m.need, .int .i64 m.price, .int .i64 m.trip, .bool m.opn]
def Eng.enc (m : Eng) : List Value := [.int .i64 m.most, .int .i64 m.idle, .int .i64 m.per]
def Eng.val (m : Eng) : Value := .agg #[.int .i64 m.most, .int .i64 m.idle, .int .i64 m.per]
def Rng.enc (m : Rng) : List Value := [.int .i64 m.lo, .int .i64 m.hi]
def Rng.val (m : Rng) : Value := .agg #[.int .i64 m.lo, .int .i64 m.hi]
def Nd.enc (m : Nd) : List Value := [.int .i64 m.parent, .int .i64 m.load.lo, .int .i64 m.load.hi, .int .i64 m.fuse, .int .i64 m.sag]
def Nd.val (m : Nd) : Value := .agg #[.int .i64 m.parent, .int .i64 m.load.lo, .int .i64 m.load.hi, .int .i64 m.fuse, .int .i64 m.sag]
def encP (m : Int × Int) : List Value := [.int .i64 m.1, .int .i64 m.2]
def valP (m : Int × Int) : Value := .agg #[.int .i64 m.1, .int .i64 m.2]
theorem sz123 : ∀ w, (sizeOf 123).run Try.prog w = .ok 4 w := fun w => by kernel_rfl
theorem sz3 : ∀ w, (sizeOf 3).run Try.prog w = .ok 1 w := fun w => by kernel_rfl

theorem within_any (n lo hi : Int) (w : World) :
    Calls Try.prog 71 #[.int .i64 n, .int .i64 lo, .int .i64 hi] w fun e w' => e = .returned (.bool (decide (lo ≤ n ∧ n ≤ hi))) ∧ w = w' := by
  generalize hres : decide (lo ≤ n ∧ n ≤ hi) = res
  have Hres := Lib.hid hres
  clear hres
  by_cases h : lo ≤ n
  · go_enter Try.func71, Try.ntmps71
    go_wp2
    go_ret
    exact ⟨ret_congr (bool_congr (by rw [← Hres.out]; simp [h])), rfl⟩
  · go_enter Try.func71, Try.ntmps71
    go_wp2
    go_ret
    exact ⟨ret_congr (bool_congr (by rw [← Hres.out]; simp; omega)), rfl⟩
theorem within_t {n lo hi : Int} (h : lo ≤ n ∧ n ≤ hi) (w : World) :
    Calls Try.prog 71 #[.int .i64 n, .int .i64 lo, .int .i64 hi] w fun e w' => e = .returned (.bool true) ∧ w = w' := by
  have := within_any n lo hi w
  rwa [decide_eq_true h] at this
theorem within_f {n lo hi : Int} (h : ¬ (lo ≤ n ∧ n ≤ hi)) (w : World) :
    Calls Try.prog 71 #[.int .i64 n, .int .i64 lo, .int .i64 hi] w fun e w' => e = .returned (.bool false) ∧ w = w' := by
  have := within_any n lo hi w
  rwa [decide_eq_false h] at this
end Go.Proofs.Ytopfhinnamhoiaa

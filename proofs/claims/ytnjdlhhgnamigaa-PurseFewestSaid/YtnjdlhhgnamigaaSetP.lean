/- Policies and weeks, as plain data. -/
import Derived.Test.YtnjdlhhgnamigaaSortP
namespace Go.Pu
open Go.Pl

structure Pol where
  least : Int
  part : Int
  most : Int
def Pol.okB (p : Pol) : Bool := decide (0 ≤ p.least ∧ p.least ≤ 1000000000000) && (decide (0 ≤ p.part ∧ p.part ≤ 1000) && decide (0 ≤ p.most ∧ p.most ≤ 1000000000000))
def Pol.due (p : Pol) (n : Int) : Int := max 0 (n - p.least) * p.part / 1000
/-- payments, and what is left -/
def Pol.pays (p : Pol) : Int → List Int → List Int
  | _, [] => []
  | left, n :: l => min left (p.due n) :: p.pays (left - min left (p.due n)) l
def lossB (l : List Int) : Bool := l.all fun n => decide (0 ≤ n ∧ n ≤ 1000000000000)
def claimsR (p : Pol) (l : List Int) : List Int × Int :=
  if p.okB then (if 50 < l.length then ([], 3) else if lossB l then (p.pays p.most l, 0) else ([], 2)) else ([], 1)

structure Cty where
  takings : Int
  num : Int
  den : Int
  tax : Int
  deriving Inhabited
structure Ctr where
  rank : Int
  wage : Int
  share : Int
  deriving Inhabited
structure Wk where
  ctys : List Cty
  premium : Int
  ctrs : List Ctr
def ctyB (c : Cty) : Bool := decide (0 ≤ c.takings ∧ c.takings ≤ 1000000000000) && (decide (1 ≤ c.num ∧ c.num ≤ 1000) && (decide (1 ≤ c.den ∧ c.den ≤ 1000) && decide (0 ≤ c.tax ∧ c.tax ≤ 1000)))
def ctrB (c : Ctr) : Bool := decide (0 ≤ c.rank ∧ c.rank ≤ 100) && (decide (0 ≤ c.wage ∧ c.wage ≤ 1000000000000) && decide (0 ≤ c.share ∧ c.share ≤ 1000))
def Wk.okB (w : Wk) : Bool :=
  decide (1 ≤ w.ctys.length ∧ w.ctys.length ≤ 8) && (w.ctys.all ctyB && (decide (0 ≤ w.premium ∧ w.premium ≤ 1000000000000) && (decide (w.ctrs.length ≤ 20) && (w.ctrs.all ctrB && decide (isum (w.ctrs.map Ctr.share) ≤ 1000)))))
def Cty.gross (c : Cty) : Int := c.takings * c.num / c.den
def Cty.taxes (c : Cty) : Int := (c.gross * c.tax + 999) / 1000
def ctr (w : Wk) (i : Nat) : Ctr := w.ctrs.getD i default
/-- one more is paid: what is left, and what each one gets -/
def payOne (w : Wk) (a : Int × (Nat → Int)) (i : Nat) : Int × (Nat → Int) := (a.1 - min a.1 (ctr w i).wage, upd a.2 i (min a.1 (ctr w i).wage))
def Wk.order (w : Wk) : List Nat := (rankL (fun i => (ctr w i.toNat).rank) w.ctrs.length).map Int.toNat
def Wk.pot (w : Wk) : Int := isum (w.ctys.map Cty.gross) - isum (w.ctys.map Cty.taxes)
def Wk.prem (w : Wk) : Int := min w.pot w.premium
def Wk.paidTo (w : Wk) (k : Nat) : Int × (Nat → Int) := (w.order.take k).foldl (payOne w) (w.pot - w.prem, fun _ => 0)
def Wk.left (w : Wk) : Int := (w.paidTo w.ctrs.length).1
def Wk.paid (w : Wk) : Nat → Int := (w.paidTo w.ctrs.length).2
def Wk.extra (w : Wk) (i : Nat) : Int := w.left * (ctr w i).share / 1000
structure Pay where
  gross : List Int
  taxes : List Int
  premium : Int
  lacks : Int
  paid : List Int
  short : List Int
  extra : List Int
  rest : Int
def Pay.zero : Pay := ⟨[], [], 0, 0, [], [], [], 0⟩
def Wk.settle (w : Wk) : Pay :=
  ⟨w.ctys.map Cty.gross, w.ctys.map Cty.taxes, w.prem, w.premium - w.prem, tab w.ctrs.length w.paid, tab w.ctrs.length (fun i => (ctr w i).wage - w.paid i), tab w.ctrs.length w.extra, w.left - isum (tab w.ctrs.length w.extra)⟩
def settleR (w : Wk) : Pay × Int := if w.okB then (w.settle, 0) else (Pay.zero, 1)
end Go.Pu

/- Ledgers and acts, as plain data. -/
import Derived.Test.YtnjdlhhgnamigaaSortP
namespace Go.Pu
open Go.Pl

structure Bag where
  window : Int
  sl : Int
  written : Int
  holds : Int
  now : Int
  opened : Bool
  deriving Inhabited, DecidableEq
structure Dif where
  bag : Int
  less : Int
  broken : Bool
  deriving Inhabited, DecidableEq
structure Led where
  windows : List Int
  bags : List Bag
  office : Int
  bank : Int
  begun : Int
  inn : Int
  out : Int
  diffs : List Dif
  deriving Inhabited, DecidableEq
structure Act where
  kind : Int
  window : Int
  bag : Int
  sl : Int
  amount : Int
  written : Int
  deriving Inhabited
def maxM : Int := 1000000000000
def monB (n : Int) : Bool := decide (0 ≤ n ∧ n ≤ 1000000000000)
def sealB (n : Int) : Bool := decide (1 ≤ n ∧ n ≤ 1000000)
def Bag.broken (b : Bag) : Bool := b.now != b.sl
def Bag.has (b : Bag) (s : Int) : Bool := b.sl == s || b.now == s
/-- is a number a sl of any bag but one (-1: of any)? -/
def Led.sealed (l : Led) (s but : Int) : Bool := (List.range l.bags.length).any fun i => decide ((i : Int) ≠ but) && (l.bags.getD i default).has s
def Led.total (l : Led) : Int := l.office + l.bank + isum l.windows + isum (l.bags.map Bag.holds)
def Led.found (l : Led) (i : Int) : Bool := l.diffs.any fun d => d.bag == i
def Led.bagB (l : Led) (i : Nat) : Bool :=
  let b := l.bags.getD i default
  decide (0 ≤ b.window ∧ b.window ≤ (l.windows.length : Int) - 1) && (sealB b.sl && (sealB b.now && (monB b.written && (monB b.holds && (!l.sealed b.sl i && (!l.sealed b.now i &&
    !(b.opened && (b.holds != 0 || (b.broken && !l.found i)))))))))
def Led.difB (l : Led) (d : Dif) : Bool :=
  decide (0 ≤ d.bag ∧ d.bag ≤ (l.bags.length : Int) - 1) && ((l.bags.getD d.bag.toNat default).opened && (decide (-1000000000000 ≤ d.less ∧ d.less ≤ 1000000000000) &&
    (decide (d.broken = (l.bags.getD d.bag.toNat default).broken) && !(d.less == 0 && !d.broken))))
/-- no bag has two differences -/
def oneB : List Dif → Bool
  | [] => true
  | d :: r => !(r.any fun e => e.bag == d.bag) && oneB r
def Led.okB (l : Led) : Bool :=
  decide ((1 ≤ l.windows.length ∧ l.windows.length ≤ 10) ∧ l.bags.length ≤ 100) && (l.windows.all monB && ([l.office, l.bank, l.begun, l.inn, l.out].all monB &&
    ((List.range l.bags.length).all l.bagB && (l.diffs.all l.difB && (oneB l.diffs && decide (l.total = l.begun + l.inn - l.out))))))
def Led.zero : Led := ⟨[], [], 0, 0, 0, 0, 0, []⟩
/-- what is missing of a window's bags -/
def Led.missing (l : Led) (w : Int) : Int × Int :=
  (isum ((l.diffs.filter fun d => (l.bags.getD d.bag.toNat default).window == w).map Dif.less), (l.diffs.filter fun d => (l.bags.getD d.bag.toNat default).window == w).length)
def Led.addW (l : Led) (w d : Int) : Led := { l with windows := l.windows.set w.toNat (l.windows.getD w.toNat 0 + d) }
def Led.win (l : Led) (w : Int) : Int := l.windows.getD w.toNat 0
def Led.winB (l : Led) (w : Int) : Bool := decide (0 ≤ w ∧ w ≤ (l.windows.length : Int) - 1)
def Led.bgB (l : Led) (w : Int) : Bool := decide (0 ≤ w ∧ w ≤ (l.bags.length : Int) - 1)
def Act.amB (a : Act) : Bool := decide (1 ≤ a.amount ∧ a.amount ≤ 1000000000000)
def Led.setBag (l : Led) (i : Int) (b : Bag) : Led := { l with bags := l.bags.set i.toNat b }
def Led.bg (l : Led) (i : Int) : Bag := l.bags.getD i.toNat default
/-- a valid ledger behind an act, and the error: then it is zero -/
def doL (l : Led) (a : Act) : Led × Int :=
  if a.kind = 1 then
    (if !l.winB a.window || !a.amB then (Led.zero, 2) else if l.office < a.amount then (Led.zero, 7) else if 1000000000000 < l.win a.window + a.amount then (Led.zero, 3)
      else ({ l.addW a.window a.amount with office := l.office - a.amount }, 0))
  else if a.kind = 2 then
    (if !l.winB a.window || !a.amB then (Led.zero, 2) else if 1000000000000 < l.win a.window + a.amount then (Led.zero, 3) else if 1000000000000 < l.inn + a.amount then (Led.zero, 3)
      else ({ l.addW a.window a.amount with inn := l.inn + a.amount }, 0))
  else if a.kind = 3 then
    (if !l.winB a.window || !a.amB then (Led.zero, 2) else if l.win a.window < a.amount then (Led.zero, 7) else if 1000000000000 < l.out + a.amount then (Led.zero, 3)
      else ({ l.addW a.window (-a.amount) with out := l.out + a.amount }, 0))
  else if a.kind = 4 then
    (if !l.winB a.window || (!sealB a.sl || (!a.amB || !monB a.written)) then (Led.zero, 2) else if 100 ≤ l.bags.length then (Led.zero, 3) else if l.sealed a.sl (-1) then (Led.zero, 6)
      else if l.win a.window < a.amount then (Led.zero, 7)
      else ({ l.addW a.window (-a.amount) with bags := l.bags ++ [⟨a.window, a.sl, a.written, a.amount, a.sl, false⟩] }, 0))
  else if a.kind = 5 then
    (if !l.bgB a.bag || (!sealB a.sl || !monB a.amount) then (Led.zero, 2) else if (l.bg a.bag).opened then (Led.zero, 8) else if l.sealed a.sl (-1) then (Led.zero, 6)
      else if (l.bg a.bag).holds < a.amount then (Led.zero, 7) else if 1000000000000 < l.out + a.amount then (Led.zero, 3)
      else ({ l.setBag a.bag { l.bg a.bag with holds := (l.bg a.bag).holds - a.amount, now := a.sl } with out := l.out + a.amount }, 0))
  else if a.kind = 6 then
    (if !l.bgB a.bag then (Led.zero, 2) else if (l.bg a.bag).opened then (Led.zero, 8) else if 1000000000000 < l.office + (l.bg a.bag).holds then (Led.zero, 3)
      else ({ l.setBag a.bag { l.bg a.bag with holds := 0, opened := true } with
        office := l.office + (l.bg a.bag).holds
        diffs := if (l.bg a.bag).holds != (l.bg a.bag).written || (l.bg a.bag).broken then l.diffs ++ [⟨a.bag, (l.bg a.bag).written - (l.bg a.bag).holds, (l.bg a.bag).broken⟩] else l.diffs }, 0))
  else if a.kind = 7 then
    (if !a.amB then (Led.zero, 2) else if l.office < a.amount then (Led.zero, 7) else if 1000000000000 < l.bank + a.amount then (Led.zero, 3) else ({ l with office := l.office - a.amount, bank := l.bank + a.amount }, 0))
  else if a.kind = 8 then
    (if !a.amB then (Led.zero, 2) else if l.bank < a.amount then (Led.zero, 7) else if 1000000000000 < l.out + a.amount then (Led.zero, 3) else ({ l with bank := l.bank - a.amount, out := l.out + a.amount }, 0))
  else (Led.zero, 1)
/-- behind acts, and the errors -/
def runL : Led → List Act → Led × List Int
  | l, [] => (l, [])
  | l, a :: r =>
    let (n, e) := doL l a
    let (m, es) := runL (if e = 0 then n else l) r
    (m, e :: es)
/-- a first ledger -/
def beginL (windows : List Int) (office : Int) : Led × Int :=
  let l : Led := ⟨windows, [], office, 0, 0, 0, 0, []⟩
  if !(decide (1 ≤ windows.length ∧ windows.length ≤ 10) && (windows.all monB && monB office)) then (Led.zero, 2)
  else if !monB l.total then (Led.zero, 2) else ({ l with begun := l.total }, 0)
end Go.Pu

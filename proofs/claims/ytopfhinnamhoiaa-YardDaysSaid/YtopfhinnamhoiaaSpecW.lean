/- Weary, as plain data. -/
import Derived.Test.YtopfhinnamhoiaaSpec
namespace Go.Yd
open Go.Pl
def weekL (log : List Int) : List Int := log.drop (log.length - 7)
def longB (d : Int) (log : List Int) : Bool := decide (d < log.getD (log.length - 1) 0)
def fullB (k : Int) (log : List Int) : Bool := decide (k < isum (weekL log))
def restB (log : List Int) : Bool := decide (7 ≤ log.length) && !(weekL log).contains 0
def whyI (d k : Int) (log : List Int) : Int := if longB d log then 1 else if fullB k log then 2 else if restB log then 3 else 0
def ruleB (d k : Int) : Bool := decide (0 ≤ d ∧ d ≤ 1440) && decide (0 ≤ k ∧ k ≤ 10080)
/-- the first day with a fault: its index, its fault and the error -/
def wearyR (d k : Int) (log : List Int) : Int × Int × Int :=
  if !ruleB d k then (0, 0, 1)
  else if 60 < log.length then (0, 0, 3)
  else if !log.all (fun x => decide (0 ≤ x ∧ x ≤ 1440)) then (0, 0, 2)
  else match (List.range log.length).find? (fun i => whyI d k (log.take (i + 1)) != 0) with
    | some i => (i, whyI d k (log.take (i + 1)), 0)
    | none => (0, 0, 7)
end Go.Yd

/-
  No cell of these rows narrows 'for every input' (looked for: loops, veiled, ifaces, maps, wideKeys, modest, calm, conditions, laid).
  DERIVED. THE GIVEN ROWS OF THIS SEAT. 2 by the template 'for every input the law returns true; each argument reads behind the call as it read before'; 0 by the template 'total and deterministic' (their statements: YtilkoooahoecfaaTotals.lean).
  GIVEN WITH THE SEED: the statements are not yours to turn. If you find one false, say at which input.
  Laid BY PROGRAM, IN A SANDBOX (cutbox-rows.mjs): the forced cells as the released guide's own fill.sh prints them over the translation cbd1634b84a6fe3b… (all of the seat's roots in one cut). By AI agents, Wed Nov 11 2026. No macro, syntax, notation, axiom, sorry.
-/
import Derived.Test.YtilkoooahoecfaaChecked
import GoSem.Claim
import GoSem.ClaimJoined
import GoSem.ClaimMapViews
import Derived.JoinedTies
import Derived.KernelRfl
namespace Go.Proofs.Ytilkoooahoecfaa
/- THE CELL 'sum', in the pinned program and in every row, IS THE sha256 OF THE DUMP (.gsa) THAT YtilkoooahoecfaaProg.lean LOADS. Nothing in Lean hashes anything: it is a label: what it is worth is what the hold of that sum in a sandbox is worth. -/
noncomputable def Try.pinned : Pinned := { name := "ytilkoooahoecfaa", sum := "cbd1634b84a6fe3b4a502ae1c8e4e2cc04ebef0f51603289f6a7a9f32371a990", checked := Try.checked }
namespace Rows
def none {H : Type} : Left H := { results := [], args := [] }

/-- 'bigtoptop.TopEarns': WHATEVER THE INPUT: true; the input reads as it did. -/
def topEarnsSpec : ChangeSpec := { name := "topEarns", fn := fun _ => fun
  | [d1, d2] => { results := [.lit (.bool true)], args := [d1, d2] }
  | _ => none }
def topEarnsRow : OpenClaim := { program := "ytilkoooahoecfaa", sum := "cbd1634b84a6fe3b4a502ae1c8e4e2cc04ebef0f51603289f6a7a9f32371a990", func := "bigtop/bigtoptop.TopEarns", spec := "topEarns", unfollowed := true, recurses := true, apart := false }
def TopEarnsSaid : Prop := topEarnsRow.holds Try.pinned (OpenSpec.ofChange topEarnsSpec)

/-- ITS FALSE NEIGHBOUR: 'it returns false'. Refute it at one input. -/
def topEarnsWrong : ChangeSpec := { name := "topEarns", fn := fun _ => fun
  | [d1, d2] => { results := [.lit (.bool false)], args := [d1, d2] }
  | _ => none }
def TopEarnsWrongFalsely : Prop := topEarnsRow.holds Try.pinned (OpenSpec.ofChange topEarnsWrong)

/-- 'bigtoptop.TopWork': WHATEVER THE INPUT: true; the input reads as it did. -/
def topWorkSpec : ChangeSpec := { name := "topWork", fn := fun _ => fun
  | [d1, d2, d3, d4] => { results := [.lit (.bool true)], args := [d1, d2, d3, d4] }
  | _ => none }
def topWorkRow : OpenClaim := { program := "ytilkoooahoecfaa", sum := "cbd1634b84a6fe3b4a502ae1c8e4e2cc04ebef0f51603289f6a7a9f32371a990", func := "bigtop/bigtoptop.TopWork", spec := "topWork", unfollowed := true, recurses := true, apart := false }
def TopWorkSaid : Prop := topWorkRow.holds Try.pinned (OpenSpec.ofChange topWorkSpec)

/-- ITS FALSE NEIGHBOUR: 'it returns false'. Refute it at one input. -/
def topWorkWrong : ChangeSpec := { name := "topWork", fn := fun _ => fun
  | [d1, d2, d3, d4] => { results := [.lit (.bool false)], args := [d1, d2, d3, d4] }
  | _ => none }
def TopWorkWrongFalsely : Prop := topWorkRow.holds Try.pinned (OpenSpec.ofChange topWorkWrong)

/- THE SECOND FORM. 'bulk': how many values and letters a reading holds, each counted each time it is reached (what is shared counts as often as it is met; a slice's spare places count too). A statement '..UptoSaid' is the law's where the arguments, and the package variables that the reading takes, are together of bulk at most 1048576: NARROWER than '..Said'. Prove '..Said' where nothing that the law and all that it calls make is longer than what came in: it says more and counts as full. Else prove '..UptoSaid'. A law counts once. -/
mutual
def uptoBulk {H : Type} : DataW H → Nat
  | .lit (.string bytes) => bytes.length + 1
  | .lit _ => 1
  | .nil => 1
  | .ptr d => uptoBulk d + 1
  | .slice elems spare => uptoBulkAll elems + uptoBulkAll spare + 1
  | .agg parts => uptoBulkAll parts + 1
  | .iface _ d => uptoBulk d + 1
  | .map entries => uptoBulkEntries entries + 1
  | .held _ => 1
def uptoBulkAll {H : Type} : List (DataW H) → Nat
  | [] => 0
  | d :: r => uptoBulk d + uptoBulkAll r
def uptoBulkEntries {H : Type} : List (Lit × DataW H) → Nat
  | [] => 0
  | x :: r => uptoBulkEntry x + uptoBulkEntries r
def uptoBulkEntry {H : Type} : Lit × DataW H → Nat
  | (.string bytes, d) => bytes.length + uptoBulk d + 1
  | (_, d) => uptoBulk d + 1
 end
def uptoSmall : (H : Type) → List (DataW H) → Bool := fun _ ds => decide (uptoBulkAll ds ≤ 1048576)
def OpenSpec.upto (s : _root_.Go.ChangeSpec) : _root_.Go.OpenSpec := { _root_.Go.OpenSpec.ofChange s with cond := some uptoSmall }

/-- 'bigtoptop.TopEarns', WHERE WHAT IT READS IS OF BULK AT MOST 1048576: true; the input reads as it did. -/
def topEarnsUptoRow : OpenClaim := { program := "ytilkoooahoecfaa", sum := "cbd1634b84a6fe3b4a502ae1c8e4e2cc04ebef0f51603289f6a7a9f32371a990", func := "bigtop/bigtoptop.TopEarns", spec := "topEarns", unfollowed := true, recurses := true, apart := false, narrowed := true }
def TopEarnsUptoSaid : Prop := topEarnsUptoRow.holds Try.pinned (OpenSpec.upto topEarnsSpec)

/-- 'bigtoptop.TopWork', WHERE WHAT IT READS IS OF BULK AT MOST 1048576: true; the input reads as it did. -/
def topWorkUptoRow : OpenClaim := { program := "ytilkoooahoecfaa", sum := "cbd1634b84a6fe3b4a502ae1c8e4e2cc04ebef0f51603289f6a7a9f32371a990", func := "bigtop/bigtoptop.TopWork", spec := "topWork", unfollowed := true, recurses := true, apart := false, narrowed := true }
def TopWorkUptoSaid : Prop := topWorkUptoRow.holds Try.pinned (OpenSpec.upto topWorkSpec)

end Rows
end Go.Proofs.Ytilkoooahoecfaa

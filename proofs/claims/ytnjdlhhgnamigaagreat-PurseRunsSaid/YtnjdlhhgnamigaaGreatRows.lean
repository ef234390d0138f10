/-
  No cell of these rows narrows 'for every input' (looked for: loops, veiled, ifaces, maps, wideKeys, modest, calm, conditions, laid).
  DERIVED. THE GIVEN ROWS OF THIS SEAT. 2 by the template 'for every input the law returns true; each argument reads behind the call as it read before'; 0 by the template 'total and deterministic' (their statements: YtnjdlhhgnamigaaGreatTotals.lean).
  GIVEN WITH THE SEED: the statements are not yours to turn. If you find one false, say at which input.
  Laid BY PROGRAM, IN A SANDBOX (cutbox-rows.mjs): the forced cells as the released guide's own fill.sh prints them over the translation 5329ce445a396a21… (all of the seat's roots in one cut). By AI agents, Wed Nov 11 2026. No macro, syntax, notation, axiom, sorry.
-/
import Derived.Test.YtnjdlhhgnamigaaGreatChecked
import GoSem.Claim
import GoSem.ClaimJoined
import GoSem.ClaimMapViews
import Derived.JoinedTies
import Derived.KernelRfl
namespace Go.Proofs.YtnjdlhhgnamigaaGreat
/- THE CELL 'sum', in the pinned program and in every row, IS THE sha256 OF THE DUMP (.gsa) THAT YtnjdlhhgnamigaaGreatProg.lean LOADS. Nothing in Lean hashes anything: it is a label: what it is worth is what the hold of that sum in a sandbox is worth. -/
noncomputable def Tryz.pinned : Pinned := { name := "ytnjdlhhgnamigaagreat", sum := "5329ce445a396a218ef961b04c00cc2d9869f52fc245dce05cf89037bd48c490", checked := Tryz.checked }
namespace Rows
def none {H : Type} : Left H := { results := [], args := [] }

/-- 'bigtoplaw09.PurseRuns': WHATEVER THE INPUT: true; the input reads as it did. -/
def purseRunsSpec : ChangeSpec := { name := "purseRuns", fn := fun _ => fun
  | [d1, d2] => { results := [.lit (.bool true)], args := [d1, d2] }
  | _ => none }
def purseRunsRow : OpenClaim := { program := "ytnjdlhhgnamigaagreat", sum := "5329ce445a396a218ef961b04c00cc2d9869f52fc245dce05cf89037bd48c490", func := "bigtop/bigtoplaw09.PurseRuns", spec := "purseRuns", unfollowed := true, recurses := true, apart := false }
def PurseRunsSaid : Prop := purseRunsRow.holds Tryz.pinned (OpenSpec.ofChange purseRunsSpec)

/-- ITS FALSE NEIGHBOUR: 'it returns false'. Refute it at one input. -/
def purseRunsWrong : ChangeSpec := { name := "purseRuns", fn := fun _ => fun
  | [d1, d2] => { results := [.lit (.bool false)], args := [d1, d2] }
  | _ => none }
def PurseRunsWrongFalsely : Prop := purseRunsRow.holds Tryz.pinned (OpenSpec.ofChange purseRunsWrong)

/-- 'bigtoplaw09.PurseActs': WHATEVER THE INPUT: true; the input reads as it did. -/
def purseActsSpec : ChangeSpec := { name := "purseActs", fn := fun _ => fun
  | [d1, d2] => { results := [.lit (.bool true)], args := [d1, d2] }
  | _ => none }
def purseActsRow : OpenClaim := { program := "ytnjdlhhgnamigaagreat", sum := "5329ce445a396a218ef961b04c00cc2d9869f52fc245dce05cf89037bd48c490", func := "bigtop/bigtoplaw09.PurseActs", spec := "purseActs", unfollowed := true, recurses := true, apart := false }
def PurseActsSaid : Prop := purseActsRow.holds Tryz.pinned (OpenSpec.ofChange purseActsSpec)

/-- ITS FALSE NEIGHBOUR: 'it returns false'. Refute it at one input. -/
def purseActsWrong : ChangeSpec := { name := "purseActs", fn := fun _ => fun
  | [d1, d2] => { results := [.lit (.bool false)], args := [d1, d2] }
  | _ => none }
def PurseActsWrongFalsely : Prop := purseActsRow.holds Tryz.pinned (OpenSpec.ofChange purseActsWrong)

/- THE SECOND FORM. 'bulk': how many values and letters a reading holds, each counted each time it is reached (what is shared counts as often as it is met; a slice's spare places count too). A statement '..UptoSaid' is the law's where the arguments, and the package variables that the reading takes, are together of bulk at most 1048576: NARROWER than '..Said'. Prove '..Said' where nothing that the law and all that it calls make is longer than what came in: it says more and counts as full. Else prove '..UptoSaid'. A law counts once. -/
mutual
def uptoBulk {H : Type} : DataW H → Nat
  | .lit (.string bytes) => bytes.length + 1
  | .lit _ => 1
  | .nil => 1
  | .ptr d => uptoBulk d + 1
  | .slice elems spare => uptoBulkAll elems + uptoBulkAll spare + 1
  | .agg parts => uptoBulkAll parts + 1
  | .iface _ d => uptoBulk d + 1
  | .map entries => uptoBulkEntries entries + 1
  | .held _ => 1
def uptoBulkAll {H : Type} : List (DataW H) → Nat
  | [] => 0
  | d :: r => uptoBulk d + uptoBulkAll r
def uptoBulkEntries {H : Type} : List (Lit × DataW H) → Nat
  | [] => 0
  | x :: r => uptoBulkEntry x + uptoBulkEntries r
def uptoBulkEntry {H : Type} : Lit × DataW H → Nat
  | (.string bytes, d) => bytes.length + uptoBulk d + 1
  | (_, d) => uptoBulk d + 1
 end
def uptoSmall : (H : Type) → List (DataW H) → Bool := fun _ ds => decide (uptoBulkAll ds ≤ 1048576)
def OpenSpec.upto (s : _root_.Go.ChangeSpec) : _root_.Go.OpenSpec := { _root_.Go.OpenSpec.ofChange s with cond := some uptoSmall }

/-- 'bigtoplaw09.PurseRuns', WHERE WHAT IT READS IS OF BULK AT MOST 1048576: true; the input reads as it did. -/
def purseRunsUptoRow : OpenClaim := { program := "ytnjdlhhgnamigaagreat", sum := "5329ce445a396a218ef961b04c00cc2d9869f52fc245dce05cf89037bd48c490", func := "bigtop/bigtoplaw09.PurseRuns", spec := "purseRuns", unfollowed := true, recurses := true, apart := false, narrowed := true }
def PurseRunsUptoSaid : Prop := purseRunsUptoRow.holds Tryz.pinned (OpenSpec.upto purseRunsSpec)

/-- 'bigtoplaw09.PurseActs', WHERE WHAT IT READS IS OF BULK AT MOST 1048576: true; the input reads as it did. -/
def purseActsUptoRow : OpenClaim := { program := "ytnjdlhhgnamigaagreat", sum := "5329ce445a396a218ef961b04c00cc2d9869f52fc245dce05cf89037bd48c490", func := "bigtop/bigtoplaw09.PurseActs", spec := "purseActs", unfollowed := true, recurses := true, apart := false, narrowed := true }
def PurseActsUptoSaid : Prop := purseActsUptoRow.holds Tryz.pinned (OpenSpec.upto purseActsSpec)

end Rows
end Go.Proofs.YtnjdlhhgnamigaaGreat

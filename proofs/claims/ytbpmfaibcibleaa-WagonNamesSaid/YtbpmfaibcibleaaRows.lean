/-
  No cell of these rows narrows 'for every input' (looked for: loops, veiled, ifaces, maps, wideKeys, modest, calm, conditions, laid).
  DERIVED. THE GIVEN ROWS OF THIS SEAT. 14 by the template 'for every input the law returns true; each argument reads behind the call as it read before'; 0 by the template 'total and deterministic' (their statements: YtbpmfaibcibleaaTotals.lean).
  GIVEN WITH THE SEED: the statements are not yours to turn. If you find one false, say at which input.
  Laid BY PROGRAM, IN A SANDBOX (cutbox-rows.mjs): the forced cells as the released guide's own fill.sh prints them over the translation 843a9a13591e72d6… (all of the seat's roots in one cut). By AI agents, Wed Nov 11 2026. No macro, syntax, notation, axiom, sorry.
-/
import Derived.Test.YtbpmfaibcibleaaChecked
import GoSem.Claim
import GoSem.ClaimJoined
import GoSem.ClaimMapViews
import Derived.JoinedTies
import Derived.KernelRfl
namespace Go.Proofs.Ytbpmfaibcibleaa
/- THE CELL 'sum', in the pinned program and in every row, IS THE sha256 OF THE DUMP (.gsa) THAT YtbpmfaibcibleaaProg.lean LOADS. Nothing in Lean hashes anything: it is a label: what it is worth is what the hold of that sum in a sandbox is worth. -/
noncomputable def Try.pinned : Pinned := { name := "ytbpmfaibcibleaa", sum := "843a9a13591e72d60b25f3358b72d1c03db3e19586d46da48c6e34feec4371e6", checked := Try.checked }
namespace Rows
def none {H : Type} : Left H := { results := [], args := [] }

/-- 'bigtoplaw05.WagonTrips': WHATEVER THE INPUT: true; the input reads as it did. -/
def wagonTripsSpec : ChangeSpec := { name := "wagonTrips", fn := fun _ => fun
  | [d1, d2] => { results := [.lit (.bool true)], args := [d1, d2] }
  | _ => none }
def wagonTripsRow : OpenClaim := { program := "ytbpmfaibcibleaa", sum := "843a9a13591e72d60b25f3358b72d1c03db3e19586d46da48c6e34feec4371e6", func := "bigtop/bigtoplaw05.WagonTrips", spec := "wagonTrips", unfollowed := true, recurses := true, plainKeys := false, apart := false }
def WagonTripsSaid : Prop := wagonTripsRow.holds Try.pinned (OpenSpec.ofChange wagonTripsSpec)

/-- ITS FALSE NEIGHBOUR: 'it returns false'. Refute it at one input. -/
def wagonTripsWrong : ChangeSpec := { name := "wagonTrips", fn := fun _ => fun
  | [d1, d2] => { results := [.lit (.bool false)], args := [d1, d2] }
  | _ => none }
def WagonTripsWrongFalsely : Prop := wagonTripsRow.holds Try.pinned (OpenSpec.ofChange wagonTripsWrong)

/-- 'bigtoplaw05.WagonHours': WHATEVER THE INPUT: true; the input reads as it did. -/
def wagonHoursSpec : ChangeSpec := { name := "wagonHours", fn := fun _ => fun
  | [d1, d2, d3, d4] => { results := [.lit (.bool true)], args := [d1, d2, d3, d4] }
  | _ => none }
def wagonHoursRow : OpenClaim := { program := "ytbpmfaibcibleaa", sum := "843a9a13591e72d60b25f3358b72d1c03db3e19586d46da48c6e34feec4371e6", func := "bigtop/bigtoplaw05.WagonHours", spec := "wagonHours", unfollowed := true, recurses := true, plainKeys := false, apart := false }
def WagonHoursSaid : Prop := wagonHoursRow.holds Try.pinned (OpenSpec.ofChange wagonHoursSpec)

/-- ITS FALSE NEIGHBOUR: 'it returns false'. Refute it at one input. -/
def wagonHoursWrong : ChangeSpec := { name := "wagonHours", fn := fun _ => fun
  | [d1, d2, d3, d4] => { results := [.lit (.bool false)], args := [d1, d2, d3, d4] }
  | _ => none }
def WagonHoursWrongFalsely : Prop := wagonHoursRow.holds Try.pinned (OpenSpec.ofChange wagonHoursWrong)

/-- 'bigtoplaw05.WagonPacks': WHATEVER THE INPUT: true; the input reads as it did. -/
def wagonPacksSpec : ChangeSpec := { name := "wagonPacks", fn := fun _ => fun
  | [d1, d2] => { results := [.lit (.bool true)], args := [d1, d2] }
  | _ => none }
def wagonPacksRow : OpenClaim := { program := "ytbpmfaibcibleaa", sum := "843a9a13591e72d60b25f3358b72d1c03db3e19586d46da48c6e34feec4371e6", func := "bigtop/bigtoplaw05.WagonPacks", spec := "wagonPacks", unfollowed := true, recurses := true, plainKeys := false, apart := false }
def WagonPacksSaid : Prop := wagonPacksRow.holds Try.pinned (OpenSpec.ofChange wagonPacksSpec)

/-- ITS FALSE NEIGHBOUR: 'it returns false'. Refute it at one input. -/
def wagonPacksWrong : ChangeSpec := { name := "wagonPacks", fn := fun _ => fun
  | [d1, d2] => { results := [.lit (.bool false)], args := [d1, d2] }
  | _ => none }
def WagonPacksWrongFalsely : Prop := wagonPacksRow.holds Try.pinned (OpenSpec.ofChange wagonPacksWrong)

/-- 'bigtoplaw05.WagonBears': WHATEVER THE INPUT: true; the input reads as it did. -/
def wagonBearsSpec : ChangeSpec := { name := "wagonBears", fn := fun _ => fun
  | [d1, d2, d3, d4, d5] => { results := [.lit (.bool true)], args := [d1, d2, d3, d4, d5] }
  | _ => none }
def wagonBearsRow : OpenClaim := { program := "ytbpmfaibcibleaa", sum := "843a9a13591e72d60b25f3358b72d1c03db3e19586d46da48c6e34feec4371e6", func := "bigtop/bigtoplaw05.WagonBears", spec := "wagonBears", unfollowed := true, recurses := true, plainKeys := false, apart := false }
def WagonBearsSaid : Prop := wagonBearsRow.holds Try.pinned (OpenSpec.ofChange wagonBearsSpec)

/-- ITS FALSE NEIGHBOUR: 'it returns false'. Refute it at one input. -/
def wagonBearsWrong : ChangeSpec := { name := "wagonBears", fn := fun _ => fun
  | [d1, d2, d3, d4, d5] => { results := [.lit (.bool false)], args := [d1, d2, d3, d4, d5] }
  | _ => none }
def WagonBearsWrongFalsely : Prop := wagonBearsRow.holds Try.pinned (OpenSpec.ofChange wagonBearsWrong)

/-- 'bigtoplaw05.WagonOut': WHATEVER THE INPUT: true; the input reads as it did. -/
def wagonOutSpec : ChangeSpec := { name := "wagonOut", fn := fun _ => fun
  | [d1, d2, d3] => { results := [.lit (.bool true)], args := [d1, d2, d3] }
  | _ => none }
def wagonOutRow : OpenClaim := { program := "ytbpmfaibcibleaa", sum := "843a9a13591e72d60b25f3358b72d1c03db3e19586d46da48c6e34feec4371e6", func := "bigtop/bigtoplaw05.WagonOut", spec := "wagonOut", unfollowed := true, recurses := true, plainKeys := false, apart := false }
def WagonOutSaid : Prop := wagonOutRow.holds Try.pinned (OpenSpec.ofChange wagonOutSpec)

/-- ITS FALSE NEIGHBOUR: 'it returns false'. Refute it at one input. -/
def wagonOutWrong : ChangeSpec := { name := "wagonOut", fn := fun _ => fun
  | [d1, d2, d3] => { results := [.lit (.bool false)], args := [d1, d2, d3] }
  | _ => none }
def WagonOutWrongFalsely : Prop := wagonOutRow.holds Try.pinned (OpenSpec.ofChange wagonOutWrong)

/-- 'bigtoplaw05.WagonFirst': WHATEVER THE INPUT: true; the input reads as it did. -/
def wagonFirstSpec : ChangeSpec := { name := "wagonFirst", fn := fun _ => fun
  | [d1, d2, d3] => { results := [.lit (.bool true)], args := [d1, d2, d3] }
  | _ => none }
def wagonFirstRow : OpenClaim := { program := "ytbpmfaibcibleaa", sum := "843a9a13591e72d60b25f3358b72d1c03db3e19586d46da48c6e34feec4371e6", func := "bigtop/bigtoplaw05.WagonFirst", spec := "wagonFirst", unfollowed := true, recurses := true, plainKeys := false, apart := false }
def WagonFirstSaid : Prop := wagonFirstRow.holds Try.pinned (OpenSpec.ofChange wagonFirstSpec)

/-- ITS FALSE NEIGHBOUR: 'it returns false'. Refute it at one input. -/
def wagonFirstWrong : ChangeSpec := { name := "wagonFirst", fn := fun _ => fun
  | [d1, d2, d3] => { results := [.lit (.bool false)], args := [d1, d2, d3] }
  | _ => none }
def WagonFirstWrongFalsely : Prop := wagonFirstRow.holds Try.pinned (OpenSpec.ofChange wagonFirstWrong)

/-- 'bigtoplaw05.WagonClimbs': WHATEVER THE INPUT: true; the input reads as it did. -/
def wagonClimbsSpec : ChangeSpec := { name := "wagonClimbs", fn := fun _ => fun
  | [d1, d2, d3, d4] => { results := [.lit (.bool true)], args := [d1, d2, d3, d4] }
  | _ => none }
def wagonClimbsRow : OpenClaim := { program := "ytbpmfaibcibleaa", sum := "843a9a13591e72d60b25f3358b72d1c03db3e19586d46da48c6e34feec4371e6", func := "bigtop/bigtoplaw05.WagonClimbs", spec := "wagonClimbs", unfollowed := true, recurses := true, plainKeys := false, apart := false }
def WagonClimbsSaid : Prop := wagonClimbsRow.holds Try.pinned (OpenSpec.ofChange wagonClimbsSpec)

/-- ITS FALSE NEIGHBOUR: 'it returns false'. Refute it at one input. -/
def wagonClimbsWrong : ChangeSpec := { name := "wagonClimbs", fn := fun _ => fun
  | [d1, d2, d3, d4] => { results := [.lit (.bool false)], args := [d1, d2, d3, d4] }
  | _ => none }
def WagonClimbsWrongFalsely : Prop := wagonClimbsRow.holds Try.pinned (OpenSpec.ofChange wagonClimbsWrong)

/-- 'bigtoplaw05.WagonSteps': WHATEVER THE INPUT: true; the input reads as it did. -/
def wagonStepsSpec : ChangeSpec := { name := "wagonSteps", fn := fun _ => fun
  | [d1, d2, d3] => { results := [.lit (.bool true)], args := [d1, d2, d3] }
  | _ => none }
def wagonStepsRow : OpenClaim := { program := "ytbpmfaibcibleaa", sum := "843a9a13591e72d60b25f3358b72d1c03db3e19586d46da48c6e34feec4371e6", func := "bigtop/bigtoplaw05.WagonSteps", spec := "wagonSteps", unfollowed := true, recurses := true, plainKeys := false, apart := false }
def WagonStepsSaid : Prop := wagonStepsRow.holds Try.pinned (OpenSpec.ofChange wagonStepsSpec)

/-- ITS FALSE NEIGHBOUR: 'it returns false'. Refute it at one input. -/
def wagonStepsWrong : ChangeSpec := { name := "wagonSteps", fn := fun _ => fun
  | [d1, d2, d3] => { results := [.lit (.bool false)], args := [d1, d2, d3] }
  | _ => none }
def WagonStepsWrongFalsely : Prop := wagonStepsRow.holds Try.pinned (OpenSpec.ofChange wagonStepsWrong)

/-- 'bigtoplaw05.WagonRight': WHATEVER THE INPUT: true; the input reads as it did. -/
def wagonRightSpec : ChangeSpec := { name := "wagonRight", fn := fun _ => fun
  | [d1, d2, d3] => { results := [.lit (.bool true)], args := [d1, d2, d3] }
  | _ => none }
def wagonRightRow : OpenClaim := { program := "ytbpmfaibcibleaa", sum := "843a9a13591e72d60b25f3358b72d1c03db3e19586d46da48c6e34feec4371e6", func := "bigtop/bigtoplaw05.WagonRight", spec := "wagonRight", unfollowed := true, recurses := true, plainKeys := false, apart := false }
def WagonRightSaid : Prop := wagonRightRow.holds Try.pinned (OpenSpec.ofChange wagonRightSpec)

/-- ITS FALSE NEIGHBOUR: 'it returns false'. Refute it at one input. -/
def wagonRightWrong : ChangeSpec := { name := "wagonRight", fn := fun _ => fun
  | [d1, d2, d3] => { results := [.lit (.bool false)], args := [d1, d2, d3] }
  | _ => none }
def WagonRightWrongFalsely : Prop := wagonRightRow.holds Try.pinned (OpenSpec.ofChange wagonRightWrong)

/-- 'bigtoplaw05.WagonAxles': WHATEVER THE INPUT: true; the input reads as it did. -/
def wagonAxlesSpec : ChangeSpec := { name := "wagonAxles", fn := fun _ => fun
  | [d1, d2, d3, d4] => { results := [.lit (.bool true)], args := [d1, d2, d3, d4] }
  | _ => none }
def wagonAxlesRow : OpenClaim := { program := "ytbpmfaibcibleaa", sum := "843a9a13591e72d60b25f3358b72d1c03db3e19586d46da48c6e34feec4371e6", func := "bigtop/bigtoplaw05.WagonAxles", spec := "wagonAxles", unfollowed := true, recurses := true, plainKeys := false, apart := false }
def WagonAxlesSaid : Prop := wagonAxlesRow.holds Try.pinned (OpenSpec.ofChange wagonAxlesSpec)

/-- ITS FALSE NEIGHBOUR: 'it returns false'. Refute it at one input. -/
def wagonAxlesWrong : ChangeSpec := { name := "wagonAxles", fn := fun _ => fun
  | [d1, d2, d3, d4] => { results := [.lit (.bool false)], args := [d1, d2, d3, d4] }
  | _ => none }
def WagonAxlesWrongFalsely : Prop := wagonAxlesRow.holds Try.pinned (OpenSpec.ofChange wagonAxlesWrong)

/-- 'bigtoplaw05.WagonBridges': WHATEVER THE INPUT: true; the input reads as it did. -/
def wagonBridgesSpec : ChangeSpec := { name := "wagonBridges", fn := fun _ => fun
  | [d1, d2, d3, d4, d5, d6, d7] => { results := [.lit (.bool true)], args := [d1, d2, d3, d4, d5, d6, d7] }
  | _ => none }
def wagonBridgesRow : OpenClaim := { program := "ytbpmfaibcibleaa", sum := "843a9a13591e72d60b25f3358b72d1c03db3e19586d46da48c6e34feec4371e6", func := "bigtop/bigtoplaw05.WagonBridges", spec := "wagonBridges", unfollowed := true, recurses := true, plainKeys := false, apart := false }
def WagonBridgesSaid : Prop := wagonBridgesRow.holds Try.pinned (OpenSpec.ofChange wagonBridgesSpec)

/-- ITS FALSE NEIGHBOUR: 'it returns false'. Refute it at one input. -/
def wagonBridgesWrong : ChangeSpec := { name := "wagonBridges", fn := fun _ => fun
  | [d1, d2, d3, d4, d5, d6, d7] => { results := [.lit (.bool false)], args := [d1, d2, d3, d4, d5, d6, d7] }
  | _ => none }
def WagonBridgesWrongFalsely : Prop := wagonBridgesRow.holds Try.pinned (OpenSpec.ofChange wagonBridgesWrong)

/-- 'bigtoplaw05.WagonFills': WHATEVER THE INPUT: true; the input reads as it did. -/
def wagonFillsSpec : ChangeSpec := { name := "wagonFills", fn := fun _ => fun
  | [d1, d2] => { results := [.lit (.bool true)], args := [d1, d2] }
  | _ => none }
def wagonFillsRow : OpenClaim := { program := "ytbpmfaibcibleaa", sum := "843a9a13591e72d60b25f3358b72d1c03db3e19586d46da48c6e34feec4371e6", func := "bigtop/bigtoplaw05.WagonFills", spec := "wagonFills", unfollowed := true, recurses := true, plainKeys := false, apart := false }
def WagonFillsSaid : Prop := wagonFillsRow.holds Try.pinned (OpenSpec.ofChange wagonFillsSpec)

/-- ITS FALSE NEIGHBOUR: 'it returns false'. Refute it at one input. -/
def wagonFillsWrong : ChangeSpec := { name := "wagonFills", fn := fun _ => fun
  | [d1, d2] => { results := [.lit (.bool false)], args := [d1, d2] }
  | _ => none }
def WagonFillsWrongFalsely : Prop := wagonFillsRow.holds Try.pinned (OpenSpec.ofChange wagonFillsWrong)

/-- 'bigtoplaw05.WagonTrains': WHATEVER THE INPUT: true; the input reads as it did. -/
def wagonTrainsSpec : ChangeSpec := { name := "wagonTrains", fn := fun _ => fun
  | [d1, d2, d3] => { results := [.lit (.bool true)], args := [d1, d2, d3] }
  | _ => none }
def wagonTrainsRow : OpenClaim := { program := "ytbpmfaibcibleaa", sum := "843a9a13591e72d60b25f3358b72d1c03db3e19586d46da48c6e34feec4371e6", func := "bigtop/bigtoplaw05.WagonTrains", spec := "wagonTrains", unfollowed := true, recurses := true, plainKeys := false, apart := false }
def WagonTrainsSaid : Prop := wagonTrainsRow.holds Try.pinned (OpenSpec.ofChange wagonTrainsSpec)

/-- ITS FALSE NEIGHBOUR: 'it returns false'. Refute it at one input. -/
def wagonTrainsWrong : ChangeSpec := { name := "wagonTrains", fn := fun _ => fun
  | [d1, d2, d3] => { results := [.lit (.bool false)], args := [d1, d2, d3] }
  | _ => none }
def WagonTrainsWrongFalsely : Prop := wagonTrainsRow.holds Try.pinned (OpenSpec.ofChange wagonTrainsWrong)

/-- 'bigtoplaw05.WagonNames': WHATEVER THE INPUT: true; the input reads as it did. -/
def wagonNamesSpec : ChangeSpec := { name := "wagonNames", fn := fun _ => fun
  | [] => { results := [.lit (.bool true)], args := [] }
  | _ => none }
def wagonNamesRow : OpenClaim := { program := "ytbpmfaibcibleaa", sum := "843a9a13591e72d60b25f3358b72d1c03db3e19586d46da48c6e34feec4371e6", func := "bigtop/bigtoplaw05.WagonNames", spec := "wagonNames", unfollowed := true, recurses := true, plainKeys := false, apart := false }
def WagonNamesSaid : Prop := wagonNamesRow.holds Try.pinned (OpenSpec.ofChange wagonNamesSpec)

/-- ITS FALSE NEIGHBOUR: 'it returns false'. Refute it at one input. -/
def wagonNamesWrong : ChangeSpec := { name := "wagonNames", fn := fun _ => fun
  | [] => { results := [.lit (.bool false)], args := [] }
  | _ => none }
def WagonNamesWrongFalsely : Prop := wagonNamesRow.holds Try.pinned (OpenSpec.ofChange wagonNamesWrong)

/- THE SECOND FORM. 'bulk': how many values and letters a reading holds, each counted each time it is reached (what is shared counts as often as it is met; a slice's spare places count too). A statement '..UptoSaid' is the law's where the arguments, and the package variables that the reading takes, are together of bulk at most 1048576: NARROWER than '..Said'. Prove '..Said' where nothing that the law and all that it calls make is longer than what came in: it says more and counts as full. Else prove '..UptoSaid'. A law counts once. -/
mutual
def uptoBulk {H : Type} : DataW H → Nat
  | .lit (.string bytes) => bytes.length + 1
  | .lit _ => 1
  | .nil => 1
  | .ptr d => uptoBulk d + 1
  | .slice elems spare => uptoBulkAll elems + uptoBulkAll spare + 1
  | .agg parts => uptoBulkAll parts + 1
  | .iface _ d => uptoBulk d + 1
  | .map entries => uptoBulkEntries entries + 1
  | .held _ => 1
def uptoBulkAll {H : Type} : List (DataW H) → Nat
  | [] => 0
  | d :: r => uptoBulk d + uptoBulkAll r
def uptoBulkEntries {H : Type} : List (Lit × DataW H) → Nat
  | [] => 0
  | x :: r => uptoBulkEntry x + uptoBulkEntries r
def uptoBulkEntry {H : Type} : Lit × DataW H → Nat
  | (.string bytes, d) => bytes.length + uptoBulk d + 1
  | (_, d) => uptoBulk d + 1
 end
def uptoSmall : (H : Type) → List (DataW H) → Bool := fun _ ds => decide (uptoBulkAll ds ≤ 1048576)
def OpenSpec.upto (s : _root_.Go.ChangeSpec) : _root_.Go.OpenSpec := { _root_.Go.OpenSpec.ofChange s with cond := some uptoSmall }

/-- 'bigtoplaw05.WagonTrips', WHERE WHAT IT READS IS OF BULK AT MOST 1048576: true; the input reads as it did. -/
def wagonTripsUptoRow : OpenClaim := { program := "ytbpmfaibcibleaa", sum := "843a9a13591e72d60b25f3358b72d1c03db3e19586d46da48c6e34feec4371e6", func := "bigtop/bigtoplaw05.WagonTrips", spec := "wagonTrips", unfollowed := true, recurses := true, plainKeys := false, apart := false, narrowed := true }
def WagonTripsUptoSaid : Prop := wagonTripsUptoRow.holds Try.pinned (OpenSpec.upto wagonTripsSpec)

/-- 'bigtoplaw05.WagonHours', WHERE WHAT IT READS IS OF BULK AT MOST 1048576: true; the input reads as it did. -/
def wagonHoursUptoRow : OpenClaim := { program := "ytbpmfaibcibleaa", sum := "843a9a13591e72d60b25f3358b72d1c03db3e19586d46da48c6e34feec4371e6", func := "bigtop/bigtoplaw05.WagonHours", spec := "wagonHours", unfollowed := true, recurses := true, plainKeys := false, apart := false, narrowed := true }
def WagonHoursUptoSaid : Prop := wagonHoursUptoRow.holds Try.pinned (OpenSpec.upto wagonHoursSpec)

/-- 'bigtoplaw05.WagonPacks', WHERE WHAT IT READS IS OF BULK AT MOST 1048576: true; the input reads as it did. -/
def wagonPacksUptoRow : OpenClaim := { program := "ytbpmfaibcibleaa", sum := "843a9a13591e72d60b25f3358b72d1c03db3e19586d46da48c6e34feec4371e6", func := "bigtop/bigtoplaw05.WagonPacks", spec := "wagonPacks", unfollowed := true, recurses := true, plainKeys := false, apart := false, narrowed := true }
def WagonPacksUptoSaid : Prop := wagonPacksUptoRow.holds Try.pinned (OpenSpec.upto wagonPacksSpec)

/-- 'bigtoplaw05.WagonBears', WHERE WHAT IT READS IS OF BULK AT MOST 1048576: true; the input reads as it did. -/
def wagonBearsUptoRow : OpenClaim := { program := "ytbpmfaibcibleaa", sum := "843a9a13591e72d60b25f3358b72d1c03db3e19586d46da48c6e34feec4371e6", func := "bigtop/bigtoplaw05.WagonBears", spec := "wagonBears", unfollowed := true, recurses := true, plainKeys := false, apart := false, narrowed := true }
def WagonBearsUptoSaid : Prop := wagonBearsUptoRow.holds Try.pinned (OpenSpec.upto wagonBearsSpec)

/-- 'bigtoplaw05.WagonOut', WHERE WHAT IT READS IS OF BULK AT MOST 1048576: true; the input reads as it did. -/
def wagonOutUptoRow : OpenClaim := { program := "ytbpmfaibcibleaa", sum := "843a9a13591e72d60b25f3358b72d1c03db3e19586d46da48c6e34feec4371e6", func := "bigtop/bigtoplaw05.WagonOut", spec := "wagonOut", unfollowed := true, recurses := true, plainKeys := false, apart := false, narrowed := true }
def WagonOutUptoSaid : Prop := wagonOutUptoRow.holds Try.pinned (OpenSpec.upto wagonOutSpec)

/-- 'bigtoplaw05.WagonFirst', WHERE WHAT IT READS IS OF BULK AT MOST 1048576: true; the input reads as it did. -/
def wagonFirstUptoRow : OpenClaim := { program := "ytbpmfaibcibleaa", sum := "843a9a13591e72d60b25f3358b72d1c03db3e19586d46da48c6e34feec4371e6", func := "bigtop/bigtoplaw05.WagonFirst", spec := "wagonFirst", unfollowed := true, recurses := true, plainKeys := false, apart := false, narrowed := true }
def WagonFirstUptoSaid : Prop := wagonFirstUptoRow.holds Try.pinned (OpenSpec.upto wagonFirstSpec)

/-- 'bigtoplaw05.WagonClimbs', WHERE WHAT IT READS IS OF BULK AT MOST 1048576: true; the input reads as it did. -/
def wagonClimbsUptoRow : OpenClaim := { program := "ytbpmfaibcibleaa", sum := "843a9a13591e72d60b25f3358b72d1c03db3e19586d46da48c6e34feec4371e6", func := "bigtop/bigtoplaw05.WagonClimbs", spec := "wagonClimbs", unfollowed := true, recurses := true, plainKeys := false, apart := false, narrowed := true }
def WagonClimbsUptoSaid : Prop := wagonClimbsUptoRow.holds Try.pinned (OpenSpec.upto wagonClimbsSpec)

/-- 'bigtoplaw05.WagonSteps', WHERE WHAT IT READS IS OF BULK AT MOST 1048576: true; the input reads as it did. -/
def wagonStepsUptoRow : OpenClaim := { program := "ytbpmfaibcibleaa", sum := "843a9a13591e72d60b25f3358b72d1c03db3e19586d46da48c6e34feec4371e6", func := "bigtop/bigtoplaw05.WagonSteps", spec := "wagonSteps", unfollowed := true, recurses := true, plainKeys := false, apart := false, narrowed := true }
def WagonStepsUptoSaid : Prop := wagonStepsUptoRow.holds Try.pinned (OpenSpec.upto wagonStepsSpec)

/-- 'bigtoplaw05.WagonRight', WHERE WHAT IT READS IS OF BULK AT MOST 1048576: true; the input reads as it did. -/
def wagonRightUptoRow : OpenClaim := { program := "ytbpmfaibcibleaa", sum := "843a9a13591e72d60b25f3358b72d1c03db3e19586d46da48c6e34feec4371e6", func := "bigtop/bigtoplaw05.WagonRight", spec := "wagonRight", unfollowed := true, recurses := true, plainKeys := false, apart := false, narrowed := true }
def WagonRightUptoSaid : Prop := wagonRightUptoRow.holds Try.pinned (OpenSpec.upto wagonRightSpec)

/-- 'bigtoplaw05.WagonAxles', WHERE WHAT IT READS IS OF BULK AT MOST 1048576: true; the input reads as it did. -/
def wagonAxlesUptoRow : OpenClaim := { program := "ytbpmfaibcibleaa", sum := "843a9a13591e72d60b25f3358b72d1c03db3e19586d46da48c6e34feec4371e6", func := "bigtop/bigtoplaw05.WagonAxles", spec := "wagonAxles", unfollowed := true, recurses := true, plainKeys := false, apart := false, narrowed := true }
def WagonAxlesUptoSaid : Prop := wagonAxlesUptoRow.holds Try.pinned (OpenSpec.upto wagonAxlesSpec)

/-- 'bigtoplaw05.WagonBridges', WHERE WHAT IT READS IS OF BULK AT MOST 1048576: true; the input reads as it did. -/
def wagonBridgesUptoRow : OpenClaim := { program := "ytbpmfaibcibleaa", sum := "843a9a13591e72d60b25f3358b72d1c03db3e19586d46da48c6e34feec4371e6", func := "bigtop/bigtoplaw05.WagonBridges", spec := "wagonBridges", unfollowed := true, recurses := true, plainKeys := false, apart := false, narrowed := true }
def WagonBridgesUptoSaid : Prop := wagonBridgesUptoRow.holds Try.pinned (OpenSpec.upto wagonBridgesSpec)

/-- 'bigtoplaw05.WagonFills', WHERE WHAT IT READS IS OF BULK AT MOST 1048576: true; the input reads as it did. -/
def wagonFillsUptoRow : OpenClaim := { program := "ytbpmfaibcibleaa", sum := "843a9a13591e72d60b25f3358b72d1c03db3e19586d46da48c6e34feec4371e6", func := "bigtop/bigtoplaw05.WagonFills", spec := "wagonFills", unfollowed := true, recurses := true, plainKeys := false, apart := false, narrowed := true }
def WagonFillsUptoSaid : Prop := wagonFillsUptoRow.holds Try.pinned (OpenSpec.upto wagonFillsSpec)

/-- 'bigtoplaw05.WagonTrains', WHERE WHAT IT READS IS OF BULK AT MOST 1048576: true; the input reads as it did. -/
def wagonTrainsUptoRow : OpenClaim := { program := "ytbpmfaibcibleaa", sum := "843a9a13591e72d60b25f3358b72d1c03db3e19586d46da48c6e34feec4371e6", func := "bigtop/bigtoplaw05.WagonTrains", spec := "wagonTrains", unfollowed := true, recurses := true, plainKeys := false, apart := false, narrowed := true }
def WagonTrainsUptoSaid : Prop := wagonTrainsUptoRow.holds Try.pinned (OpenSpec.upto wagonTrainsSpec)

/-- 'bigtoplaw05.WagonNames', WHERE WHAT IT READS IS OF BULK AT MOST 1048576: true; the input reads as it did. -/
def wagonNamesUptoRow : OpenClaim := { program := "ytbpmfaibcibleaa", sum := "843a9a13591e72d60b25f3358b72d1c03db3e19586d46da48c6e34feec4371e6", func := "bigtop/bigtoplaw05.WagonNames", spec := "wagonNames", unfollowed := true, recurses := true, plainKeys := false, apart := false, narrowed := true }
def WagonNamesUptoSaid : Prop := wagonNamesUptoRow.holds Try.pinned (OpenSpec.upto wagonNamesSpec)

end Rows
end Go.Proofs.Ytbpmfaibcibleaa

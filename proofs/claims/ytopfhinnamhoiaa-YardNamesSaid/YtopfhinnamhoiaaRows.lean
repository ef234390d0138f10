/-
  No cell of these rows narrows 'for every input' (looked for: loops, veiled, ifaces, maps, wideKeys, modest, calm, conditions, laid).
  DERIVED. THE GIVEN ROWS OF THIS SEAT. 14 by the template 'for every input the law returns true; each argument reads behind the call as it read before'; 0 by the template 'total and deterministic' (their statements: YtopfhinnamhoiaaTotals.lean).
  GIVEN WITH THE SEED: the statements are not yours to turn. If you find one false, say at which input.
  Laid BY PROGRAM, IN A SANDBOX (cutbox-rows.mjs): the forced cells as the released guide's own fill.sh prints them over the translation 200beb0dd44f2693… (all of the seat's roots in one cut). By AI agents, Wed Nov 11 2026. No macro, syntax, notation, axiom, sorry.
-/
import Derived.Test.YtopfhinnamhoiaaChecked
import GoSem.Claim
import GoSem.ClaimJoined
import GoSem.ClaimMapViews
import Derived.JoinedTies
import Derived.KernelRfl
namespace Go.Proofs.Ytopfhinnamhoiaa
/- THE CELL 'sum', in the pinned program and in every row, IS THE sha256 OF THE DUMP (.gsa) THAT YtopfhinnamhoiaaProg.lean LOADS. Nothing in Lean hashes anything: it is a label: what it is worth is what the hold of that sum in a sandbox is worth. -/
noncomputable def Try.pinned : Pinned := { name := "ytopfhinnamhoiaa", sum := "200beb0dd44f2693f8b4be027318ba2e22321232d6526767f27ad52945aab20d", checked := Try.checked }
namespace Rows
def none {H : Type} : Left H := { results := [], args := [] }

/-- 'bigtoplaw10.YardDays': WHATEVER THE INPUT: true; the input reads as it did. -/
def yardDaysSpec : ChangeSpec := { name := "yardDays", fn := fun _ => fun
  | [d1, d2] => { results := [.lit (.bool true)], args := [d1, d2] }
  | _ => none }
def yardDaysRow : OpenClaim := { program := "ytopfhinnamhoiaa", sum := "200beb0dd44f2693f8b4be027318ba2e22321232d6526767f27ad52945aab20d", func := "bigtop/bigtoplaw10.YardDays", spec := "yardDays", unfollowed := true, recurses := true, plainKeys := false, apart := false }
def YardDaysSaid : Prop := yardDaysRow.holds Try.pinned (OpenSpec.ofChange yardDaysSpec)

/-- ITS FALSE NEIGHBOUR: 'it returns false'. Refute it at one input. -/
def yardDaysWrong : ChangeSpec := { name := "yardDays", fn := fun _ => fun
  | [d1, d2] => { results := [.lit (.bool false)], args := [d1, d2] }
  | _ => none }
def YardDaysWrongFalsely : Prop := yardDaysRow.holds Try.pinned (OpenSpec.ofChange yardDaysWrong)

/-- 'bigtoplaw10.YardSpares': WHATEVER THE INPUT: true; the input reads as it did. -/
def yardSparesSpec : ChangeSpec := { name := "yardSpares", fn := fun _ => fun
  | [d1, d2] => { results := [.lit (.bool true)], args := [d1, d2] }
  | _ => none }
def yardSparesRow : OpenClaim := { program := "ytopfhinnamhoiaa", sum := "200beb0dd44f2693f8b4be027318ba2e22321232d6526767f27ad52945aab20d", func := "bigtop/bigtoplaw10.YardSpares", spec := "yardSpares", unfollowed := true, recurses := true, plainKeys := false, apart := false }
def YardSparesSaid : Prop := yardSparesRow.holds Try.pinned (OpenSpec.ofChange yardSparesSpec)

/-- ITS FALSE NEIGHBOUR: 'it returns false'. Refute it at one input. -/
def yardSparesWrong : ChangeSpec := { name := "yardSpares", fn := fun _ => fun
  | [d1, d2] => { results := [.lit (.bool false)], args := [d1, d2] }
  | _ => none }
def YardSparesWrongFalsely : Prop := yardSparesRow.holds Try.pinned (OpenSpec.ofChange yardSparesWrong)

/-- 'bigtoplaw10.YardPlugs': WHATEVER THE INPUT: true; the input reads as it did. -/
def yardPlugsSpec : ChangeSpec := { name := "yardPlugs", fn := fun _ => fun
  | [d1, d2] => { results := [.lit (.bool true)], args := [d1, d2] }
  | _ => none }
def yardPlugsRow : OpenClaim := { program := "ytopfhinnamhoiaa", sum := "200beb0dd44f2693f8b4be027318ba2e22321232d6526767f27ad52945aab20d", func := "bigtop/bigtoplaw10.YardPlugs", spec := "yardPlugs", unfollowed := true, recurses := true, plainKeys := false, apart := false }
def YardPlugsSaid : Prop := yardPlugsRow.holds Try.pinned (OpenSpec.ofChange yardPlugsSpec)

/-- ITS FALSE NEIGHBOUR: 'it returns false'. Refute it at one input. -/
def yardPlugsWrong : ChangeSpec := { name := "yardPlugs", fn := fun _ => fun
  | [d1, d2] => { results := [.lit (.bool false)], args := [d1, d2] }
  | _ => none }
def YardPlugsWrongFalsely : Prop := yardPlugsRow.holds Try.pinned (OpenSpec.ofChange yardPlugsWrong)

/-- 'bigtoplaw10.YardFoes': WHATEVER THE INPUT: true; the input reads as it did. -/
def yardFoesSpec : ChangeSpec := { name := "yardFoes", fn := fun _ => fun
  | [d1, d2] => { results := [.lit (.bool true)], args := [d1, d2] }
  | _ => none }
def yardFoesRow : OpenClaim := { program := "ytopfhinnamhoiaa", sum := "200beb0dd44f2693f8b4be027318ba2e22321232d6526767f27ad52945aab20d", func := "bigtop/bigtoplaw10.YardFoes", spec := "yardFoes", unfollowed := true, recurses := true, plainKeys := false, apart := false }
def YardFoesSaid : Prop := yardFoesRow.holds Try.pinned (OpenSpec.ofChange yardFoesSpec)

/-- ITS FALSE NEIGHBOUR: 'it returns false'. Refute it at one input. -/
def yardFoesWrong : ChangeSpec := { name := "yardFoes", fn := fun _ => fun
  | [d1, d2] => { results := [.lit (.bool false)], args := [d1, d2] }
  | _ => none }
def YardFoesWrongFalsely : Prop := yardFoesRow.holds Try.pinned (OpenSpec.ofChange yardFoesWrong)

/-- 'bigtoplaw10.YardAny': WHATEVER THE INPUT: true; the input reads as it did. -/
def yardAnySpec : ChangeSpec := { name := "yardAny", fn := fun _ => fun
  | [d1, d2] => { results := [.lit (.bool true)], args := [d1, d2] }
  | _ => none }
def yardAnyRow : OpenClaim := { program := "ytopfhinnamhoiaa", sum := "200beb0dd44f2693f8b4be027318ba2e22321232d6526767f27ad52945aab20d", func := "bigtop/bigtoplaw10.YardAny", spec := "yardAny", unfollowed := true, recurses := true, plainKeys := false, apart := false }
def YardAnySaid : Prop := yardAnyRow.holds Try.pinned (OpenSpec.ofChange yardAnySpec)

/-- ITS FALSE NEIGHBOUR: 'it returns false'. Refute it at one input. -/
def yardAnyWrong : ChangeSpec := { name := "yardAny", fn := fun _ => fun
  | [d1, d2] => { results := [.lit (.bool false)], args := [d1, d2] }
  | _ => none }
def YardAnyWrongFalsely : Prop := yardAnyRow.holds Try.pinned (OpenSpec.ofChange yardAnyWrong)

/-- 'bigtoplaw10.YardStands': WHATEVER THE INPUT: true; the input reads as it did. -/
def yardStandsSpec : ChangeSpec := { name := "yardStands", fn := fun _ => fun
  | [d1, d2] => { results := [.lit (.bool true)], args := [d1, d2] }
  | _ => none }
def yardStandsRow : OpenClaim := { program := "ytopfhinnamhoiaa", sum := "200beb0dd44f2693f8b4be027318ba2e22321232d6526767f27ad52945aab20d", func := "bigtop/bigtoplaw10.YardStands", spec := "yardStands", unfollowed := true, recurses := true, plainKeys := false, apart := false }
def YardStandsSaid : Prop := yardStandsRow.holds Try.pinned (OpenSpec.ofChange yardStandsSpec)

/-- ITS FALSE NEIGHBOUR: 'it returns false'. Refute it at one input. -/
def yardStandsWrong : ChangeSpec := { name := "yardStands", fn := fun _ => fun
  | [d1, d2] => { results := [.lit (.bool false)], args := [d1, d2] }
  | _ => none }
def YardStandsWrongFalsely : Prop := yardStandsRow.holds Try.pinned (OpenSpec.ofChange yardStandsWrong)

/-- 'bigtoplaw10.YardFlows': WHATEVER THE INPUT: true; the input reads as it did. -/
def yardFlowsSpec : ChangeSpec := { name := "yardFlows", fn := fun _ => fun
  | [d] => { results := [.lit (.bool true)], args := [d] }
  | _ => none }
def yardFlowsRow : OpenClaim := { program := "ytopfhinnamhoiaa", sum := "200beb0dd44f2693f8b4be027318ba2e22321232d6526767f27ad52945aab20d", func := "bigtop/bigtoplaw10.YardFlows", spec := "yardFlows", unfollowed := true, recurses := true, plainKeys := false, apart := false }
def YardFlowsSaid : Prop := yardFlowsRow.holds Try.pinned (OpenSpec.ofChange yardFlowsSpec)

/-- ITS FALSE NEIGHBOUR: 'it returns false'. Refute it at one input. -/
def yardFlowsWrong : ChangeSpec := { name := "yardFlows", fn := fun _ => fun
  | [d] => { results := [.lit (.bool false)], args := [d] }
  | _ => none }
def YardFlowsWrongFalsely : Prop := yardFlowsRow.holds Try.pinned (OpenSpec.ofChange yardFlowsWrong)

/-- 'bigtoplaw10.YardFed': WHATEVER THE INPUT: true; the input reads as it did. -/
def yardFedSpec : ChangeSpec := { name := "yardFed", fn := fun _ => fun
  | [d1, d2] => { results := [.lit (.bool true)], args := [d1, d2] }
  | _ => none }
def yardFedRow : OpenClaim := { program := "ytopfhinnamhoiaa", sum := "200beb0dd44f2693f8b4be027318ba2e22321232d6526767f27ad52945aab20d", func := "bigtop/bigtoplaw10.YardFed", spec := "yardFed", unfollowed := true, recurses := true, plainKeys := false, apart := false }
def YardFedSaid : Prop := yardFedRow.holds Try.pinned (OpenSpec.ofChange yardFedSpec)

/-- ITS FALSE NEIGHBOUR: 'it returns false'. Refute it at one input. -/
def yardFedWrong : ChangeSpec := { name := "yardFed", fn := fun _ => fun
  | [d1, d2] => { results := [.lit (.bool false)], args := [d1, d2] }
  | _ => none }
def YardFedWrongFalsely : Prop := yardFedRow.holds Try.pinned (OpenSpec.ofChange yardFedWrong)

/-- 'bigtoplaw10.YardBuys': WHATEVER THE INPUT: true; the input reads as it did. -/
def yardBuysSpec : ChangeSpec := { name := "yardBuys", fn := fun _ => fun
  | [d1, d2] => { results := [.lit (.bool true)], args := [d1, d2] }
  | _ => none }
def yardBuysRow : OpenClaim := { program := "ytopfhinnamhoiaa", sum := "200beb0dd44f2693f8b4be027318ba2e22321232d6526767f27ad52945aab20d", func := "bigtop/bigtoplaw10.YardBuys", spec := "yardBuys", unfollowed := true, recurses := true, plainKeys := false, apart := false }
def YardBuysSaid : Prop := yardBuysRow.holds Try.pinned (OpenSpec.ofChange yardBuysSpec)

/-- ITS FALSE NEIGHBOUR: 'it returns false'. Refute it at one input. -/
def yardBuysWrong : ChangeSpec := { name := "yardBuys", fn := fun _ => fun
  | [d1, d2] => { results := [.lit (.bool false)], args := [d1, d2] }
  | _ => none }
def YardBuysWrongFalsely : Prop := yardBuysRow.holds Try.pinned (OpenSpec.ofChange yardBuysWrong)

/-- 'bigtoplaw10.YardProves': WHATEVER THE INPUT: true; the input reads as it did. -/
def yardProvesSpec : ChangeSpec := { name := "yardProves", fn := fun _ => fun
  | [d1, d2, d3, d4, d5, d6, d7] => { results := [.lit (.bool true)], args := [d1, d2, d3, d4, d5, d6, d7] }
  | _ => none }
def yardProvesRow : OpenClaim := { program := "ytopfhinnamhoiaa", sum := "200beb0dd44f2693f8b4be027318ba2e22321232d6526767f27ad52945aab20d", func := "bigtop/bigtoplaw10.YardProves", spec := "yardProves", unfollowed := true, recurses := true, plainKeys := false, apart := false }
def YardProvesSaid : Prop := yardProvesRow.holds Try.pinned (OpenSpec.ofChange yardProvesSpec)

/-- ITS FALSE NEIGHBOUR: 'it returns false'. Refute it at one input. -/
def yardProvesWrong : ChangeSpec := { name := "yardProves", fn := fun _ => fun
  | [d1, d2, d3, d4, d5, d6, d7] => { results := [.lit (.bool false)], args := [d1, d2, d3, d4, d5, d6, d7] }
  | _ => none }
def YardProvesWrongFalsely : Prop := yardProvesRow.holds Try.pinned (OpenSpec.ofChange yardProvesWrong)

/-- 'bigtoplaw10.YardCheapest': WHATEVER THE INPUT: true; the input reads as it did. -/
def yardCheapestSpec : ChangeSpec := { name := "yardCheapest", fn := fun _ => fun
  | [d1, d2, d3, d4, d5, d6] => { results := [.lit (.bool true)], args := [d1, d2, d3, d4, d5, d6] }
  | _ => none }
def yardCheapestRow : OpenClaim := { program := "ytopfhinnamhoiaa", sum := "200beb0dd44f2693f8b4be027318ba2e22321232d6526767f27ad52945aab20d", func := "bigtop/bigtoplaw10.YardCheapest", spec := "yardCheapest", unfollowed := true, recurses := true, plainKeys := false, apart := false }
def YardCheapestSaid : Prop := yardCheapestRow.holds Try.pinned (OpenSpec.ofChange yardCheapestSpec)

/-- ITS FALSE NEIGHBOUR: 'it returns false'. Refute it at one input. -/
def yardCheapestWrong : ChangeSpec := { name := "yardCheapest", fn := fun _ => fun
  | [d1, d2, d3, d4, d5, d6] => { results := [.lit (.bool false)], args := [d1, d2, d3, d4, d5, d6] }
  | _ => none }
def YardCheapestWrongFalsely : Prop := yardCheapestRow.holds Try.pinned (OpenSpec.ofChange yardCheapestWrong)

/-- 'bigtoplaw10.YardRuns': WHATEVER THE INPUT: true; the input reads as it did. -/
def yardRunsSpec : ChangeSpec := { name := "yardRuns", fn := fun _ => fun
  | [d1, d2, d3] => { results := [.lit (.bool true)], args := [d1, d2, d3] }
  | _ => none }
def yardRunsRow : OpenClaim := { program := "ytopfhinnamhoiaa", sum := "200beb0dd44f2693f8b4be027318ba2e22321232d6526767f27ad52945aab20d", func := "bigtop/bigtoplaw10.YardRuns", spec := "yardRuns", unfollowed := true, recurses := true, plainKeys := false, apart := false }
def YardRunsSaid : Prop := yardRunsRow.holds Try.pinned (OpenSpec.ofChange yardRunsSpec)

/-- ITS FALSE NEIGHBOUR: 'it returns false'. Refute it at one input. -/
def yardRunsWrong : ChangeSpec := { name := "yardRuns", fn := fun _ => fun
  | [d1, d2, d3] => { results := [.lit (.bool false)], args := [d1, d2, d3] }
  | _ => none }
def YardRunsWrongFalsely : Prop := yardRunsRow.holds Try.pinned (OpenSpec.ofChange yardRunsWrong)

/-- 'bigtoplaw10.YardFails': WHATEVER THE INPUT: true; the input reads as it did. -/
def yardFailsSpec : ChangeSpec := { name := "yardFails", fn := fun _ => fun
  | [d1, d2, d3, d4, d5] => { results := [.lit (.bool true)], args := [d1, d2, d3, d4, d5] }
  | _ => none }
def yardFailsRow : OpenClaim := { program := "ytopfhinnamhoiaa", sum := "200beb0dd44f2693f8b4be027318ba2e22321232d6526767f27ad52945aab20d", func := "bigtop/bigtoplaw10.YardFails", spec := "yardFails", unfollowed := true, recurses := true, plainKeys := false, apart := false }
def YardFailsSaid : Prop := yardFailsRow.holds Try.pinned (OpenSpec.ofChange yardFailsSpec)

/-- ITS FALSE NEIGHBOUR: 'it returns false'. Refute it at one input. -/
def yardFailsWrong : ChangeSpec := { name := "yardFails", fn := fun _ => fun
  | [d1, d2, d3, d4, d5] => { results := [.lit (.bool false)], args := [d1, d2, d3, d4, d5] }
  | _ => none }
def YardFailsWrongFalsely : Prop := yardFailsRow.holds Try.pinned (OpenSpec.ofChange yardFailsWrong)

/-- 'bigtoplaw10.YardNames': WHATEVER THE INPUT: true; the input reads as it did. -/
def yardNamesSpec : ChangeSpec := { name := "yardNames", fn := fun _ => fun
  | [] => { results := [.lit (.bool true)], args := [] }
  | _ => none }
def yardNamesRow : OpenClaim := { program := "ytopfhinnamhoiaa", sum := "200beb0dd44f2693f8b4be027318ba2e22321232d6526767f27ad52945aab20d", func := "bigtop/bigtoplaw10.YardNames", spec := "yardNames", unfollowed := true, recurses := true, plainKeys := false, apart := false }
def YardNamesSaid : Prop := yardNamesRow.holds Try.pinned (OpenSpec.ofChange yardNamesSpec)

/-- ITS FALSE NEIGHBOUR: 'it returns false'. Refute it at one input. -/
def yardNamesWrong : ChangeSpec := { name := "yardNames", fn := fun _ => fun
  | [] => { results := [.lit (.bool false)], args := [] }
  | _ => none }
def YardNamesWrongFalsely : Prop := yardNamesRow.holds Try.pinned (OpenSpec.ofChange yardNamesWrong)

/- THE SECOND FORM. 'bulk': how many values and letters a reading holds, each counted each time it is reached (what is shared counts as often as it is met; a slice's spare places count too). A statement '..UptoSaid' is the law's where the arguments, and the package variables that the reading takes, are together of bulk at most 1048576: NARROWER than '..Said'. Prove '..Said' where nothing that the law and all that it calls make is longer than what came in: it says more and counts as full. Else prove '..UptoSaid'. A law counts once. -/
mutual
def uptoBulk {H : Type} : DataW H → Nat
  | .lit (.string bytes) => bytes.length + 1
  | .lit _ => 1
  | .nil => 1
  | .ptr d => uptoBulk d + 1
  | .slice elems spare => uptoBulkAll elems + uptoBulkAll spare + 1
  | .agg parts => uptoBulkAll parts + 1
  | .iface _ d => uptoBulk d + 1
  | .map entries => uptoBulkEntries entries + 1
  | .held _ => 1
def uptoBulkAll {H : Type} : List (DataW H) → Nat
  | [] => 0
  | d :: r => uptoBulk d + uptoBulkAll r
def uptoBulkEntries {H : Type} : List (Lit × DataW H) → Nat
  | [] => 0
  | x :: r => uptoBulkEntry x + uptoBulkEntries r
def uptoBulkEntry {H : Type} : Lit × DataW H → Nat
  | (.string bytes, d) => bytes.length + uptoBulk d + 1
  | (_, d) => uptoBulk d + 1
 end
def uptoSmall : (H : Type) → List (DataW H) → Bool := fun _ ds => decide (uptoBulkAll ds ≤ 1048576)
def OpenSpec.upto (s : _root_.Go.ChangeSpec) : _root_.Go.OpenSpec := { _root_.Go.OpenSpec.ofChange s with cond := some uptoSmall }

/-- 'bigtoplaw10.YardDays', WHERE WHAT IT READS IS OF BULK AT MOST 1048576: true; the input reads as it did. -/
def yardDaysUptoRow : OpenClaim := { program := "ytopfhinnamhoiaa", sum := "200beb0dd44f2693f8b4be027318ba2e22321232d6526767f27ad52945aab20d", func := "bigtop/bigtoplaw10.YardDays", spec := "yardDays", unfollowed := true, recurses := true, plainKeys := false, apart := false, narrowed := true }
def YardDaysUptoSaid : Prop := yardDaysUptoRow.holds Try.pinned (OpenSpec.upto yardDaysSpec)

/-- 'bigtoplaw10.YardSpares', WHERE WHAT IT READS IS OF BULK AT MOST 1048576: true; the input reads as it did. -/
def yardSparesUptoRow : OpenClaim := { program := "ytopfhinnamhoiaa", sum := "200beb0dd44f2693f8b4be027318ba2e22321232d6526767f27ad52945aab20d", func := "bigtop/bigtoplaw10.YardSpares", spec := "yardSpares", unfollowed := true, recurses := true, plainKeys := false, apart := false, narrowed := true }
def YardSparesUptoSaid : Prop := yardSparesUptoRow.holds Try.pinned (OpenSpec.upto yardSparesSpec)

/-- 'bigtoplaw10.YardPlugs', WHERE WHAT IT READS IS OF BULK AT MOST 1048576: true; the input reads as it did. -/
def yardPlugsUptoRow : OpenClaim := { program := "ytopfhinnamhoiaa", sum := "200beb0dd44f2693f8b4be027318ba2e22321232d6526767f27ad52945aab20d", func := "bigtop/bigtoplaw10.YardPlugs", spec := "yardPlugs", unfollowed := true, recurses := true, plainKeys := false, apart := false, narrowed := true }
def YardPlugsUptoSaid : Prop := yardPlugsUptoRow.holds Try.pinned (OpenSpec.upto yardPlugsSpec)

/-- 'bigtoplaw10.YardFoes', WHERE WHAT IT READS IS OF BULK AT MOST 1048576: true; the input reads as it did. -/
def yardFoesUptoRow : OpenClaim := { program := "ytopfhinnamhoiaa", sum := "200beb0dd44f2693f8b4be027318ba2e22321232d6526767f27ad52945aab20d", func := "bigtop/bigtoplaw10.YardFoes", spec := "yardFoes", unfollowed := true, recurses := true, plainKeys := false, apart := false, narrowed := true }
def YardFoesUptoSaid : Prop := yardFoesUptoRow.holds Try.pinned (OpenSpec.upto yardFoesSpec)

/-- 'bigtoplaw10.YardAny', WHERE WHAT IT READS IS OF BULK AT MOST 1048576: true; the input reads as it did. -/
def yardAnyUptoRow : OpenClaim := { program := "ytopfhinnamhoiaa", sum := "200beb0dd44f2693f8b4be027318ba2e22321232d6526767f27ad52945aab20d", func := "bigtop/bigtoplaw10.YardAny", spec := "yardAny", unfollowed := true, recurses := true, plainKeys := false, apart := false, narrowed := true }
def YardAnyUptoSaid : Prop := yardAnyUptoRow.holds Try.pinned (OpenSpec.upto yardAnySpec)

/-- 'bigtoplaw10.YardStands', WHERE WHAT IT READS IS OF BULK AT MOST 1048576: true; the input reads as it did. -/
def yardStandsUptoRow : OpenClaim := { program := "ytopfhinnamhoiaa", sum := "200beb0dd44f2693f8b4be027318ba2e22321232d6526767f27ad52945aab20d", func := "bigtop/bigtoplaw10.YardStands", spec := "yardStands", unfollowed := true, recurses := true, plainKeys := false, apart := false, narrowed := true }
def YardStandsUptoSaid : Prop := yardStandsUptoRow.holds Try.pinned (OpenSpec.upto yardStandsSpec)

/-- 'bigtoplaw10.YardFlows', WHERE WHAT IT READS IS OF BULK AT MOST 1048576: true; the input reads as it did. -/
def yardFlowsUptoRow : OpenClaim := { program := "ytopfhinnamhoiaa", sum := "200beb0dd44f2693f8b4be027318ba2e22321232d6526767f27ad52945aab20d", func := "bigtop/bigtoplaw10.YardFlows", spec := "yardFlows", unfollowed := true, recurses := true, plainKeys := false, apart := false, narrowed := true }
def YardFlowsUptoSaid : Prop := yardFlowsUptoRow.holds Try.pinned (OpenSpec.upto yardFlowsSpec)

/-- 'bigtoplaw10.YardFed', WHERE WHAT IT READS IS OF BULK AT MOST 1048576: true; the input reads as it did. -/
def yardFedUptoRow : OpenClaim := { program := "ytopfhinnamhoiaa", sum := "200beb0dd44f2693f8b4be027318ba2e22321232d6526767f27ad52945aab20d", func := "bigtop/bigtoplaw10.YardFed", spec := "yardFed", unfollowed := true, recurses := true, plainKeys := false, apart := false, narrowed := true }
def YardFedUptoSaid : Prop := yardFedUptoRow.holds Try.pinned (OpenSpec.upto yardFedSpec)

/-- 'bigtoplaw10.YardBuys', WHERE WHAT IT READS IS OF BULK AT MOST 1048576: true; the input reads as it did. -/
def yardBuysUptoRow : OpenClaim := { program := "ytopfhinnamhoiaa", sum := "200beb0dd44f2693f8b4be027318ba2e22321232d6526767f27ad52945aab20d", func := "bigtop/bigtoplaw10.YardBuys", spec := "yardBuys", unfollowed := true, recurses := true, plainKeys := false, apart := false, narrowed := true }
def YardBuysUptoSaid : Prop := yardBuysUptoRow.holds Try.pinned (OpenSpec.upto yardBuysSpec)

/-- 'bigtoplaw10.YardProves', WHERE WHAT IT READS IS OF BULK AT MOST 1048576: true; the input reads as it did. -/
def yardProvesUptoRow : OpenClaim := { program := "ytopfhinnamhoiaa", sum := "200beb0dd44f2693f8b4be027318ba2e22321232d6526767f27ad52945aab20d", func := "bigtop/bigtoplaw10.YardProves", spec := "yardProves", unfollowed := true, recurses := true, plainKeys := false, apart := false, narrowed := true }
def YardProvesUptoSaid : Prop := yardProvesUptoRow.holds Try.pinned (OpenSpec.upto yardProvesSpec)

/-- 'bigtoplaw10.YardCheapest', WHERE WHAT IT READS IS OF BULK AT MOST 1048576: true; the input reads as it did. -/
def yardCheapestUptoRow : OpenClaim := { program := "ytopfhinnamhoiaa", sum := "200beb0dd44f2693f8b4be027318ba2e22321232d6526767f27ad52945aab20d", func := "bigtop/bigtoplaw10.YardCheapest", spec := "yardCheapest", unfollowed := true, recurses := true, plainKeys := false, apart := false, narrowed := true }
def YardCheapestUptoSaid : Prop := yardCheapestUptoRow.holds Try.pinned (OpenSpec.upto yardCheapestSpec)

/-- 'bigtoplaw10.YardRuns', WHERE WHAT IT READS IS OF BULK AT MOST 1048576: true; the input reads as it did. -/
def yardRunsUptoRow : OpenClaim := { program := "ytopfhinnamhoiaa", sum := "200beb0dd44f2693f8b4be027318ba2e22321232d6526767f27ad52945aab20d", func := "bigtop/bigtoplaw10.YardRuns", spec := "yardRuns", unfollowed := true, recurses := true, plainKeys := false, apart := false, narrowed := true }
def YardRunsUptoSaid : Prop := yardRunsUptoRow.holds Try.pinned (OpenSpec.upto yardRunsSpec)

/-- 'bigtoplaw10.YardFails', WHERE WHAT IT READS IS OF BULK AT MOST 1048576: true; the input reads as it did. -/
def yardFailsUptoRow : OpenClaim := { program := "ytopfhinnamhoiaa", sum := "200beb0dd44f2693f8b4be027318ba2e22321232d6526767f27ad52945aab20d", func := "bigtop/bigtoplaw10.YardFails", spec := "yardFails", unfollowed := true, recurses := true, plainKeys := false, apart := false, narrowed := true }
def YardFailsUptoSaid : Prop := yardFailsUptoRow.holds Try.pinned (OpenSpec.upto yardFailsSpec)

/-- 'bigtoplaw10.YardNames', WHERE WHAT IT READS IS OF BULK AT MOST 1048576: true; the input reads as it did. -/
def yardNamesUptoRow : OpenClaim := { program := "ytopfhinnamhoiaa", sum := "200beb0dd44f2693f8b4be027318ba2e22321232d6526767f27ad52945aab20d", func := "bigtop/bigtoplaw10.YardNames", spec := "yardNames", unfollowed := true, recurses := true, plainKeys := false, apart := false, narrowed := true }
def YardNamesUptoSaid : Prop := yardNamesUptoRow.holds Try.pinned (OpenSpec.upto yardNamesSpec)

end Rows
end Go.Proofs.Ytopfhinnamhoiaa

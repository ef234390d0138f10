/-
  No cell of these rows narrows 'for every input' (looked for: loops, veiled, ifaces, maps, wideKeys, modest, calm, conditions, laid).
  DERIVED. THE GIVEN ROWS OF THIS SEAT. 11 by the template 'for every input the law returns true; each argument reads behind the call as it read before'; 0 by the template 'total and deterministic' (their statements: YtcnidhcdkbfpcaaTotals.lean).
  GIVEN WITH THE SEED: the statements are not yours to turn. If you find one false, say at which input.
  Laid BY PROGRAM, IN A SANDBOX (cutbox-rows.mjs): the forced cells as the released guide's own fill.sh prints them over the translation 2333d2852a1af1ef… (all of the seat's roots in one cut). By AI agents, Wed Nov 11 2026. No macro, syntax, notation, axiom, sorry.
-/
import Derived.Test.YtcnidhcdkbfpcaaChecked
import GoSem.Claim
import GoSem.ClaimJoined
import GoSem.ClaimMapViews
import Derived.JoinedTies
import Derived.KernelRfl
namespace Go.Proofs.Ytcnidhcdkbfpcaa
/- THE CELL 'sum', in the pinned program and in every row, IS THE sha256 OF THE DUMP (.gsa) THAT YtcnidhcdkbfpcaaProg.lean LOADS. Nothing in Lean hashes anything: it is a label: what it is worth is what the hold of that sum in a sandbox is worth. -/
noncomputable def Try.pinned : Pinned := { name := "ytcnidhcdkbfpcaa", sum := "2333d2852a1af1efe701d8ee9c56245ca9b5f308b3d6182e809985c5082cd1b4", checked := Try.checked }
namespace Rows
def none {H : Type} : Left H := { results := [], args := [] }

/-- 'bigtoplaw07.ProgrammeBests': WHATEVER THE INPUT: true; the input reads as it did. -/
def programmeBestsSpec : ChangeSpec := { name := "programmeBests", fn := fun _ => fun
  | [d] => { results := [.lit (.bool true)], args := [d] }
  | _ => none }
def programmeBestsRow : OpenClaim := { program := "ytcnidhcdkbfpcaa", sum := "2333d2852a1af1efe701d8ee9c56245ca9b5f308b3d6182e809985c5082cd1b4", func := "bigtop/bigtoplaw07.ProgrammeBests", spec := "programmeBests", unfollowed := true, recurses := true, plainKeys := false, apart := false }
def ProgrammeBestsSaid : Prop := programmeBestsRow.holds Try.pinned (OpenSpec.ofChange programmeBestsSpec)

/-- ITS FALSE NEIGHBOUR: 'it returns false'. Refute it at one input. -/
def programmeBestsWrong : ChangeSpec := { name := "programmeBests", fn := fun _ => fun
  | [d] => { results := [.lit (.bool false)], args := [d] }
  | _ => none }
def ProgrammeBestsWrongFalsely : Prop := programmeBestsRow.holds Try.pinned (OpenSpec.ofChange programmeBestsWrong)

/-- 'bigtoplaw07.ProgrammeEasier': WHATEVER THE INPUT: true; the input reads as it did. -/
def programmeEasierSpec : ChangeSpec := { name := "programmeEasier", fn := fun _ => fun
  | [d1, d2, d3] => { results := [.lit (.bool true)], args := [d1, d2, d3] }
  | _ => none }
def programmeEasierRow : OpenClaim := { program := "ytcnidhcdkbfpcaa", sum := "2333d2852a1af1efe701d8ee9c56245ca9b5f308b3d6182e809985c5082cd1b4", func := "bigtop/bigtoplaw07.ProgrammeEasier", spec := "programmeEasier", unfollowed := true, recurses := true, plainKeys := false, apart := false }
def ProgrammeEasierSaid : Prop := programmeEasierRow.holds Try.pinned (OpenSpec.ofChange programmeEasierSpec)

/-- ITS FALSE NEIGHBOUR: 'it returns false'. Refute it at one input. -/
def programmeEasierWrong : ChangeSpec := { name := "programmeEasier", fn := fun _ => fun
  | [d1, d2, d3] => { results := [.lit (.bool false)], args := [d1, d2, d3] }
  | _ => none }
def ProgrammeEasierWrongFalsely : Prop := programmeEasierRow.holds Try.pinned (OpenSpec.ofChange programmeEasierWrong)

/-- 'bigtoplaw07.ProgrammeSheets': WHATEVER THE INPUT: true; the input reads as it did. -/
def programmeSheetsSpec : ChangeSpec := { name := "programmeSheets", fn := fun _ => fun
  | [d1, d2] => { results := [.lit (.bool true)], args := [d1, d2] }
  | _ => none }
def programmeSheetsRow : OpenClaim := { program := "ytcnidhcdkbfpcaa", sum := "2333d2852a1af1efe701d8ee9c56245ca9b5f308b3d6182e809985c5082cd1b4", func := "bigtop/bigtoplaw07.ProgrammeSheets", spec := "programmeSheets", unfollowed := true, recurses := true, plainKeys := false, apart := false }
def ProgrammeSheetsSaid : Prop := programmeSheetsRow.holds Try.pinned (OpenSpec.ofChange programmeSheetsSpec)

/-- ITS FALSE NEIGHBOUR: 'it returns false'. Refute it at one input. -/
def programmeSheetsWrong : ChangeSpec := { name := "programmeSheets", fn := fun _ => fun
  | [d1, d2] => { results := [.lit (.bool false)], args := [d1, d2] }
  | _ => none }
def ProgrammeSheetsWrongFalsely : Prop := programmeSheetsRow.holds Try.pinned (OpenSpec.ofChange programmeSheetsWrong)

/-- 'bigtoplaw07.ProgrammeChanges': WHATEVER THE INPUT: true; the input reads as it did. -/
def programmeChangesSpec : ChangeSpec := { name := "programmeChanges", fn := fun _ => fun
  | [d1, d2, d3] => { results := [.lit (.bool true)], args := [d1, d2, d3] }
  | _ => none }
def programmeChangesRow : OpenClaim := { program := "ytcnidhcdkbfpcaa", sum := "2333d2852a1af1efe701d8ee9c56245ca9b5f308b3d6182e809985c5082cd1b4", func := "bigtop/bigtoplaw07.ProgrammeChanges", spec := "programmeChanges", unfollowed := true, recurses := true, plainKeys := false, apart := false }
def ProgrammeChangesSaid : Prop := programmeChangesRow.holds Try.pinned (OpenSpec.ofChange programmeChangesSpec)

/-- ITS FALSE NEIGHBOUR: 'it returns false'. Refute it at one input. -/
def programmeChangesWrong : ChangeSpec := { name := "programmeChanges", fn := fun _ => fun
  | [d1, d2, d3] => { results := [.lit (.bool false)], args := [d1, d2, d3] }
  | _ => none }
def ProgrammeChangesWrongFalsely : Prop := programmeChangesRow.holds Try.pinned (OpenSpec.ofChange programmeChangesWrong)

/-- 'bigtoplaw07.ProgrammeOrders': WHATEVER THE INPUT: true; the input reads as it did. -/
def programmeOrdersSpec : ChangeSpec := { name := "programmeOrders", fn := fun _ => fun
  | [d1, d2] => { results := [.lit (.bool true)], args := [d1, d2] }
  | _ => none }
def programmeOrdersRow : OpenClaim := { program := "ytcnidhcdkbfpcaa", sum := "2333d2852a1af1efe701d8ee9c56245ca9b5f308b3d6182e809985c5082cd1b4", func := "bigtop/bigtoplaw07.ProgrammeOrders", spec := "programmeOrders", unfollowed := true, recurses := true, plainKeys := false, apart := false }
def ProgrammeOrdersSaid : Prop := programmeOrdersRow.holds Try.pinned (OpenSpec.ofChange programmeOrdersSpec)

/-- ITS FALSE NEIGHBOUR: 'it returns false'. Refute it at one input. -/
def programmeOrdersWrong : ChangeSpec := { name := "programmeOrders", fn := fun _ => fun
  | [d1, d2] => { results := [.lit (.bool false)], args := [d1, d2] }
  | _ => none }
def ProgrammeOrdersWrongFalsely : Prop := programmeOrdersRow.holds Try.pinned (OpenSpec.ofChange programmeOrdersWrong)

/-- 'bigtoplaw07.ProgrammeNone': WHATEVER THE INPUT: true; the input reads as it did. -/
def programmeNoneSpec : ChangeSpec := { name := "programmeNone", fn := fun _ => fun
  | [d] => { results := [.lit (.bool true)], args := [d] }
  | _ => none }
def programmeNoneRow : OpenClaim := { program := "ytcnidhcdkbfpcaa", sum := "2333d2852a1af1efe701d8ee9c56245ca9b5f308b3d6182e809985c5082cd1b4", func := "bigtop/bigtoplaw07.ProgrammeNone", spec := "programmeNone", unfollowed := true, recurses := true, plainKeys := false, apart := false }
def ProgrammeNoneSaid : Prop := programmeNoneRow.holds Try.pinned (OpenSpec.ofChange programmeNoneSpec)

/-- ITS FALSE NEIGHBOUR: 'it returns false'. Refute it at one input. -/
def programmeNoneWrong : ChangeSpec := { name := "programmeNone", fn := fun _ => fun
  | [d] => { results := [.lit (.bool false)], args := [d] }
  | _ => none }
def ProgrammeNoneWrongFalsely : Prop := programmeNoneRow.holds Try.pinned (OpenSpec.ofChange programmeNoneWrong)

/-- 'bigtoplaw07.ProgrammeWithout': WHATEVER THE INPUT: true; the input reads as it did. -/
def programmeWithoutSpec : ChangeSpec := { name := "programmeWithout", fn := fun _ => fun
  | [d1, d2] => { results := [.lit (.bool true)], args := [d1, d2] }
  | _ => none }
def programmeWithoutRow : OpenClaim := { program := "ytcnidhcdkbfpcaa", sum := "2333d2852a1af1efe701d8ee9c56245ca9b5f308b3d6182e809985c5082cd1b4", func := "bigtop/bigtoplaw07.ProgrammeWithout", spec := "programmeWithout", unfollowed := true, recurses := true, plainKeys := false, apart := false }
def ProgrammeWithoutSaid : Prop := programmeWithoutRow.holds Try.pinned (OpenSpec.ofChange programmeWithoutSpec)

/-- ITS FALSE NEIGHBOUR: 'it returns false'. Refute it at one input. -/
def programmeWithoutWrong : ChangeSpec := { name := "programmeWithout", fn := fun _ => fun
  | [d1, d2] => { results := [.lit (.bool false)], args := [d1, d2] }
  | _ => none }
def ProgrammeWithoutWrongFalsely : Prop := programmeWithoutRow.holds Try.pinned (OpenSpec.ofChange programmeWithoutWrong)

/-- 'bigtoplaw07.ProgrammeBest': WHATEVER THE INPUT: true; the input reads as it did. -/
def programmeBestSpec : ChangeSpec := { name := "programmeBest", fn := fun _ => fun
  | [d1, d2, d3, d4, d5] => { results := [.lit (.bool true)], args := [d1, d2, d3, d4, d5] }
  | _ => none }
def programmeBestRow : OpenClaim := { program := "ytcnidhcdkbfpcaa", sum := "2333d2852a1af1efe701d8ee9c56245ca9b5f308b3d6182e809985c5082cd1b4", func := "bigtop/bigtoplaw07.ProgrammeBest", spec := "programmeBest", unfollowed := true, recurses := true, plainKeys := false, apart := false }
def ProgrammeBestSaid : Prop := programmeBestRow.holds Try.pinned (OpenSpec.ofChange programmeBestSpec)

/-- ITS FALSE NEIGHBOUR: 'it returns false'. Refute it at one input. -/
def programmeBestWrong : ChangeSpec := { name := "programmeBest", fn := fun _ => fun
  | [d1, d2, d3, d4, d5] => { results := [.lit (.bool false)], args := [d1, d2, d3, d4, d5] }
  | _ => none }
def ProgrammeBestWrongFalsely : Prop := programmeBestRow.holds Try.pinned (OpenSpec.ofChange programmeBestWrong)

/-- 'bigtoplaw07.ProgrammeAbsences': WHATEVER THE INPUT: true; the input reads as it did. -/
def programmeAbsencesSpec : ChangeSpec := { name := "programmeAbsences", fn := fun _ => fun
  | [d] => { results := [.lit (.bool true)], args := [d] }
  | _ => none }
def programmeAbsencesRow : OpenClaim := { program := "ytcnidhcdkbfpcaa", sum := "2333d2852a1af1efe701d8ee9c56245ca9b5f308b3d6182e809985c5082cd1b4", func := "bigtop/bigtoplaw07.ProgrammeAbsences", spec := "programmeAbsences", unfollowed := true, recurses := true, plainKeys := false, apart := false }
def ProgrammeAbsencesSaid : Prop := programmeAbsencesRow.holds Try.pinned (OpenSpec.ofChange programmeAbsencesSpec)

/-- ITS FALSE NEIGHBOUR: 'it returns false'. Refute it at one input. -/
def programmeAbsencesWrong : ChangeSpec := { name := "programmeAbsences", fn := fun _ => fun
  | [d] => { results := [.lit (.bool false)], args := [d] }
  | _ => none }
def ProgrammeAbsencesWrongFalsely : Prop := programmeAbsencesRow.holds Try.pinned (OpenSpec.ofChange programmeAbsencesWrong)

/-- 'bigtoplaw07.ProgrammeMissing': WHATEVER THE INPUT: true; the input reads as it did. -/
def programmeMissingSpec : ChangeSpec := { name := "programmeMissing", fn := fun _ => fun
  | [d] => { results := [.lit (.bool true)], args := [d] }
  | _ => none }
def programmeMissingRow : OpenClaim := { program := "ytcnidhcdkbfpcaa", sum := "2333d2852a1af1efe701d8ee9c56245ca9b5f308b3d6182e809985c5082cd1b4", func := "bigtop/bigtoplaw07.ProgrammeMissing", spec := "programmeMissing", unfollowed := true, recurses := true, plainKeys := false, apart := false }
def ProgrammeMissingSaid : Prop := programmeMissingRow.holds Try.pinned (OpenSpec.ofChange programmeMissingSpec)

/-- ITS FALSE NEIGHBOUR: 'it returns false'. Refute it at one input. -/
def programmeMissingWrong : ChangeSpec := { name := "programmeMissing", fn := fun _ => fun
  | [d] => { results := [.lit (.bool false)], args := [d] }
  | _ => none }
def ProgrammeMissingWrongFalsely : Prop := programmeMissingRow.holds Try.pinned (OpenSpec.ofChange programmeMissingWrong)

/-- 'bigtoplaw07.ProgrammeNames': WHATEVER THE INPUT: true; the input reads as it did. -/
def programmeNamesSpec : ChangeSpec := { name := "programmeNames", fn := fun _ => fun
  | [] => { results := [.lit (.bool true)], args := [] }
  | _ => none }
def programmeNamesRow : OpenClaim := { program := "ytcnidhcdkbfpcaa", sum := "2333d2852a1af1efe701d8ee9c56245ca9b5f308b3d6182e809985c5082cd1b4", func := "bigtop/bigtoplaw07.ProgrammeNames", spec := "programmeNames", unfollowed := true, recurses := true, plainKeys := false, apart := false }
def ProgrammeNamesSaid : Prop := programmeNamesRow.holds Try.pinned (OpenSpec.ofChange programmeNamesSpec)

/-- ITS FALSE NEIGHBOUR: 'it returns false'. Refute it at one input. -/
def programmeNamesWrong : ChangeSpec := { name := "programmeNames", fn := fun _ => fun
  | [] => { results := [.lit (.bool false)], args := [] }
  | _ => none }
def ProgrammeNamesWrongFalsely : Prop := programmeNamesRow.holds Try.pinned (OpenSpec.ofChange programmeNamesWrong)

/- THE SECOND FORM. 'bulk': how many values and letters a reading holds, each counted each time it is reached (what is shared counts as often as it is met; a slice's spare places count too). A statement '..UptoSaid' is the law's where the arguments, and the package variables that the reading takes, are together of bulk at most 1048576: NARROWER than '..Said'. Prove '..Said' where nothing that the law and all that it calls make is longer than what came in: it says more and counts as full. Else prove '..UptoSaid'. A law counts once. -/
mutual
def uptoBulk {H : Type} : DataW H → Nat
  | .lit (.string bytes) => bytes.length + 1
  | .lit _ => 1
  | .nil => 1
  | .ptr d => uptoBulk d + 1
  | .slice elems spare => uptoBulkAll elems + uptoBulkAll spare + 1
  | .agg parts => uptoBulkAll parts + 1
  | .iface _ d => uptoBulk d + 1
  | .map entries => uptoBulkEntries entries + 1
  | .held _ => 1
def uptoBulkAll {H : Type} : List (DataW H) → Nat
  | [] => 0
  | d :: r => uptoBulk d + uptoBulkAll r
def uptoBulkEntries {H : Type} : List (Lit × DataW H) → Nat
  | [] => 0
  | x :: r => uptoBulkEntry x + uptoBulkEntries r
def uptoBulkEntry {H : Type} : Lit × DataW H → Nat
  | (.string bytes, d) => bytes.length + uptoBulk d + 1
  | (_, d) => uptoBulk d + 1
 end
def uptoSmall : (H : Type) → List (DataW H) → Bool := fun _ ds => decide (uptoBulkAll ds ≤ 1048576)
def OpenSpec.upto (s : _root_.Go.ChangeSpec) : _root_.Go.OpenSpec := { _root_.Go.OpenSpec.ofChange s with cond := some uptoSmall }

/-- 'bigtoplaw07.ProgrammeBests', WHERE WHAT IT READS IS OF BULK AT MOST 1048576: true; the input reads as it did. -/
def programmeBestsUptoRow : OpenClaim := { program := "ytcnidhcdkbfpcaa", sum := "2333d2852a1af1efe701d8ee9c56245ca9b5f308b3d6182e809985c5082cd1b4", func := "bigtop/bigtoplaw07.ProgrammeBests", spec := "programmeBests", unfollowed := true, recurses := true, plainKeys := false, apart := false, narrowed := true }
def ProgrammeBestsUptoSaid : Prop := programmeBestsUptoRow.holds Try.pinned (OpenSpec.upto programmeBestsSpec)

/-- 'bigtoplaw07.ProgrammeEasier', WHERE WHAT IT READS IS OF BULK AT MOST 1048576: true; the input reads as it did. -/
def programmeEasierUptoRow : OpenClaim := { program := "ytcnidhcdkbfpcaa", sum := "2333d2852a1af1efe701d8ee9c56245ca9b5f308b3d6182e809985c5082cd1b4", func := "bigtop/bigtoplaw07.ProgrammeEasier", spec := "programmeEasier", unfollowed := true, recurses := true, plainKeys := false, apart := false, narrowed := true }
def ProgrammeEasierUptoSaid : Prop := programmeEasierUptoRow.holds Try.pinned (OpenSpec.upto programmeEasierSpec)

/-- 'bigtoplaw07.ProgrammeSheets', WHERE WHAT IT READS IS OF BULK AT MOST 1048576: true; the input reads as it did. -/
def programmeSheetsUptoRow : OpenClaim := { program := "ytcnidhcdkbfpcaa", sum := "2333d2852a1af1efe701d8ee9c56245ca9b5f308b3d6182e809985c5082cd1b4", func := "bigtop/bigtoplaw07.ProgrammeSheets", spec := "programmeSheets", unfollowed := true, recurses := true, plainKeys := false, apart := false, narrowed := true }
def ProgrammeSheetsUptoSaid : Prop := programmeSheetsUptoRow.holds Try.pinned (OpenSpec.upto programmeSheetsSpec)

/-- 'bigtoplaw07.ProgrammeChanges', WHERE WHAT IT READS IS OF BULK AT MOST 1048576: true; the input reads as it did. -/
def programmeChangesUptoRow : OpenClaim := { program := "ytcnidhcdkbfpcaa", sum := "2333d2852a1af1efe701d8ee9c56245ca9b5f308b3d6182e809985c5082cd1b4", func := "bigtop/bigtoplaw07.ProgrammeChanges", spec := "programmeChanges", unfollowed := true, recurses := true, plainKeys := false, apart := false, narrowed := true }
def ProgrammeChangesUptoSaid : Prop := programmeChangesUptoRow.holds Try.pinned (OpenSpec.upto programmeChangesSpec)

/-- 'bigtoplaw07.ProgrammeOrders', WHERE WHAT IT READS IS OF BULK AT MOST 1048576: true; the input reads as it did. -/
def programmeOrdersUptoRow : OpenClaim := { program := "ytcnidhcdkbfpcaa", sum := "2333d2852a1af1efe701d8ee9c56245ca9b5f308b3d6182e809985c5082cd1b4", func := "bigtop/bigtoplaw07.ProgrammeOrders", spec := "programmeOrders", unfollowed := true, recurses := true, plainKeys := false, apart := false, narrowed := true }
def ProgrammeOrdersUptoSaid : Prop := programmeOrdersUptoRow.holds Try.pinned (OpenSpec.upto programmeOrdersSpec)

/-- 'bigtoplaw07.ProgrammeNone', WHERE WHAT IT READS IS OF BULK AT MOST 1048576: true; the input reads as it did. -/
def programmeNoneUptoRow : OpenClaim := { program := "ytcnidhcdkbfpcaa", sum := "2333d2852a1af1efe701d8ee9c56245ca9b5f308b3d6182e809985c5082cd1b4", func := "bigtop/bigtoplaw07.ProgrammeNone", spec := "programmeNone", unfollowed := true, recurses := true, plainKeys := false, apart := false, narrowed := true }
def ProgrammeNoneUptoSaid : Prop := programmeNoneUptoRow.holds Try.pinned (OpenSpec.upto programmeNoneSpec)

/-- 'bigtoplaw07.ProgrammeWithout', WHERE WHAT IT READS IS OF BULK AT MOST 1048576: true; the input reads as it did. -/
def programmeWithoutUptoRow : OpenClaim := { program := "ytcnidhcdkbfpcaa", sum := "2333d2852a1af1efe701d8ee9c56245ca9b5f308b3d6182e809985c5082cd1b4", func := "bigtop/bigtoplaw07.ProgrammeWithout", spec := "programmeWithout", unfollowed := true, recurses := true, plainKeys := false, apart := false, narrowed := true }
def ProgrammeWithoutUptoSaid : Prop := programmeWithoutUptoRow.holds Try.pinned (OpenSpec.upto programmeWithoutSpec)

/-- 'bigtoplaw07.ProgrammeBest', WHERE WHAT IT READS IS OF BULK AT MOST 1048576: true; the input reads as it did. -/
def programmeBestUptoRow : OpenClaim := { program := "ytcnidhcdkbfpcaa", sum := "2333d2852a1af1efe701d8ee9c56245ca9b5f308b3d6182e809985c5082cd1b4", func := "bigtop/bigtoplaw07.ProgrammeBest", spec := "programmeBest", unfollowed := true, recurses := true, plainKeys := false, apart := false, narrowed := true }
def ProgrammeBestUptoSaid : Prop := programmeBestUptoRow.holds Try.pinned (OpenSpec.upto programmeBestSpec)

/-- 'bigtoplaw07.ProgrammeAbsences', WHERE WHAT IT READS IS OF BULK AT MOST 1048576: true; the input reads as it did. -/
def programmeAbsencesUptoRow : OpenClaim := { program := "ytcnidhcdkbfpcaa", sum := "2333d2852a1af1efe701d8ee9c56245ca9b5f308b3d6182e809985c5082cd1b4", func := "bigtop/bigtoplaw07.ProgrammeAbsences", spec := "programmeAbsences", unfollowed := true, recurses := true, plainKeys := false, apart := false, narrowed := true }
def ProgrammeAbsencesUptoSaid : Prop := programmeAbsencesUptoRow.holds Try.pinned (OpenSpec.upto programmeAbsencesSpec)

/-- 'bigtoplaw07.ProgrammeMissing', WHERE WHAT IT READS IS OF BULK AT MOST 1048576: true; the input reads as it did. -/
def programmeMissingUptoRow : OpenClaim := { program := "ytcnidhcdkbfpcaa", sum := "2333d2852a1af1efe701d8ee9c56245ca9b5f308b3d6182e809985c5082cd1b4", func := "bigtop/bigtoplaw07.ProgrammeMissing", spec := "programmeMissing", unfollowed := true, recurses := true, plainKeys := false, apart := false, narrowed := true }
def ProgrammeMissingUptoSaid : Prop := programmeMissingUptoRow.holds Try.pinned (OpenSpec.upto programmeMissingSpec)

/-- 'bigtoplaw07.ProgrammeNames', WHERE WHAT IT READS IS OF BULK AT MOST 1048576: true; the input reads as it did. -/
def programmeNamesUptoRow : OpenClaim := { program := "ytcnidhcdkbfpcaa", sum := "2333d2852a1af1efe701d8ee9c56245ca9b5f308b3d6182e809985c5082cd1b4", func := "bigtop/bigtoplaw07.ProgrammeNames", spec := "programmeNames", unfollowed := true, recurses := true, plainKeys := false, apart := false, narrowed := true }
def ProgrammeNamesUptoSaid : Prop := programmeNamesUptoRow.holds Try.pinned (OpenSpec.upto programmeNamesSpec)

end Rows
end Go.Proofs.Ytcnidhcdkbfpcaa

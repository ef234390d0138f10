/-
  No cell of these rows narrows 'for every input' (looked for: loops, veiled, ifaces, maps, wideKeys, modest, calm, conditions, laid).
  DERIVED. THE GIVEN ROWS OF THIS SEAT. 13 by the template 'for every input the law returns true; each argument reads behind the call as it read before'; 0 by the template 'total and deterministic' (their statements: YtnjdlhhgnamigaaTotals.lean).
  GIVEN WITH THE SEED: the statements are not yours to turn. If you find one false, say at which input.
  Laid BY PROGRAM, IN A SANDBOX (cutbox-rows.mjs): the forced cells as the released guide's own fill.sh prints them over the translation 520a94d77aa7a979… (all of the seat's roots in one cut). By AI agents, Wed Nov 11 2026. No macro, syntax, notation, axiom, sorry.
-/
import Derived.Test.YtnjdlhhgnamigaaChecked
import GoSem.Claim
import GoSem.ClaimJoined
import GoSem.ClaimMapViews
import Derived.JoinedTies
import Derived.KernelRfl
namespace Go.Proofs.Ytnjdlhhgnamigaa
/- THE CELL 'sum', in the pinned program and in every row, IS THE sha256 OF THE DUMP (.gsa) THAT YtnjdlhhgnamigaaProg.lean LOADS. Nothing in Lean hashes anything: it is a label: what it is worth is what the hold of that sum in a sandbox is worth. -/
noncomputable def Try.pinned : Pinned := { name := "ytnjdlhhgnamigaa", sum := "520a94d77aa7a979d2e0aff8c87c2b9a60d976723311833f54f85e5c9037ab36", checked := Try.checked }
namespace Rows
def none {H : Type} : Left H := { results := [], args := [] }

/-- 'bigtoplaw09.PurseSettles': WHATEVER THE INPUT: true; the input reads as it did. -/
def purseSettlesSpec : ChangeSpec := { name := "purseSettles", fn := fun _ => fun
  | [d] => { results := [.lit (.bool true)], args := [d] }
  | _ => none }
def purseSettlesRow : OpenClaim := { program := "ytnjdlhhgnamigaa", sum := "520a94d77aa7a979d2e0aff8c87c2b9a60d976723311833f54f85e5c9037ab36", func := "bigtop/bigtoplaw09.PurseSettles", spec := "purseSettles", unfollowed := true, recurses := true, apart := false }
def PurseSettlesSaid : Prop := purseSettlesRow.holds Try.pinned (OpenSpec.ofChange purseSettlesSpec)

/-- ITS FALSE NEIGHBOUR: 'it returns false'. Refute it at one input. -/
def purseSettlesWrong : ChangeSpec := { name := "purseSettles", fn := fun _ => fun
  | [d] => { results := [.lit (.bool false)], args := [d] }
  | _ => none }
def PurseSettlesWrongFalsely : Prop := purseSettlesRow.holds Try.pinned (OpenSpec.ofChange purseSettlesWrong)

/-- 'bigtoplaw09.PurseClaims': WHATEVER THE INPUT: true; the input reads as it did. -/
def purseClaimsSpec : ChangeSpec := { name := "purseClaims", fn := fun _ => fun
  | [d1, d2] => { results := [.lit (.bool true)], args := [d1, d2] }
  | _ => none }
def purseClaimsRow : OpenClaim := { program := "ytnjdlhhgnamigaa", sum := "520a94d77aa7a979d2e0aff8c87c2b9a60d976723311833f54f85e5c9037ab36", func := "bigtop/bigtoplaw09.PurseClaims", spec := "purseClaims", unfollowed := true, recurses := true, apart := false }
def PurseClaimsSaid : Prop := purseClaimsRow.holds Try.pinned (OpenSpec.ofChange purseClaimsSpec)

/-- ITS FALSE NEIGHBOUR: 'it returns false'. Refute it at one input. -/
def purseClaimsWrong : ChangeSpec := { name := "purseClaims", fn := fun _ => fun
  | [d1, d2] => { results := [.lit (.bool false)], args := [d1, d2] }
  | _ => none }
def PurseClaimsWrongFalsely : Prop := purseClaimsRow.holds Try.pinned (OpenSpec.ofChange purseClaimsWrong)

/-- 'bigtoplaw09.PurseAll': WHATEVER THE INPUT: true; the input reads as it did. -/
def purseAllSpec : ChangeSpec := { name := "purseAll", fn := fun _ => fun
  | [d] => { results := [.lit (.bool true)], args := [d] }
  | _ => none }
def purseAllRow : OpenClaim := { program := "ytnjdlhhgnamigaa", sum := "520a94d77aa7a979d2e0aff8c87c2b9a60d976723311833f54f85e5c9037ab36", func := "bigtop/bigtoplaw09.PurseAll", spec := "purseAll", unfollowed := true, recurses := true, apart := false }
def PurseAllSaid : Prop := purseAllRow.holds Try.pinned (OpenSpec.ofChange purseAllSpec)

/-- ITS FALSE NEIGHBOUR: 'it returns false'. Refute it at one input. -/
def purseAllWrong : ChangeSpec := { name := "purseAll", fn := fun _ => fun
  | [d] => { results := [.lit (.bool false)], args := [d] }
  | _ => none }
def PurseAllWrongFalsely : Prop := purseAllRow.holds Try.pinned (OpenSpec.ofChange purseAllWrong)

/-- 'bigtoplaw09.PurseRanks': WHATEVER THE INPUT: true; the input reads as it did. -/
def purseRanksSpec : ChangeSpec := { name := "purseRanks", fn := fun _ => fun
  | [d] => { results := [.lit (.bool true)], args := [d] }
  | _ => none }
def purseRanksRow : OpenClaim := { program := "ytnjdlhhgnamigaa", sum := "520a94d77aa7a979d2e0aff8c87c2b9a60d976723311833f54f85e5c9037ab36", func := "bigtop/bigtoplaw09.PurseRanks", spec := "purseRanks", unfollowed := true, recurses := true, apart := false }
def PurseRanksSaid : Prop := purseRanksRow.holds Try.pinned (OpenSpec.ofChange purseRanksSpec)

/-- ITS FALSE NEIGHBOUR: 'it returns false'. Refute it at one input. -/
def purseRanksWrong : ChangeSpec := { name := "purseRanks", fn := fun _ => fun
  | [d] => { results := [.lit (.bool false)], args := [d] }
  | _ => none }
def PurseRanksWrongFalsely : Prop := purseRanksRow.holds Try.pinned (OpenSpec.ofChange purseRanksWrong)

/-- 'bigtoplaw09.PurseMore': WHATEVER THE INPUT: true; the input reads as it did. -/
def purseMoreSpec : ChangeSpec := { name := "purseMore", fn := fun _ => fun
  | [d1, d2, d3, d4] => { results := [.lit (.bool true)], args := [d1, d2, d3, d4] }
  | _ => none }
def purseMoreRow : OpenClaim := { program := "ytnjdlhhgnamigaa", sum := "520a94d77aa7a979d2e0aff8c87c2b9a60d976723311833f54f85e5c9037ab36", func := "bigtop/bigtoplaw09.PurseMore", spec := "purseMore", unfollowed := true, recurses := true, apart := false }
def PurseMoreSaid : Prop := purseMoreRow.holds Try.pinned (OpenSpec.ofChange purseMoreSpec)

/-- ITS FALSE NEIGHBOUR: 'it returns false'. Refute it at one input. -/
def purseMoreWrong : ChangeSpec := { name := "purseMore", fn := fun _ => fun
  | [d1, d2, d3, d4] => { results := [.lit (.bool false)], args := [d1, d2, d3, d4] }
  | _ => none }
def PurseMoreWrongFalsely : Prop := purseMoreRow.holds Try.pinned (OpenSpec.ofChange purseMoreWrong)

/-- 'bigtoplaw09.PurseCover': WHATEVER THE INPUT: true; the input reads as it did. -/
def purseCoverSpec : ChangeSpec := { name := "purseCover", fn := fun _ => fun
  | [d1, d2, d3, d4] => { results := [.lit (.bool true)], args := [d1, d2, d3, d4] }
  | _ => none }
def purseCoverRow : OpenClaim := { program := "ytnjdlhhgnamigaa", sum := "520a94d77aa7a979d2e0aff8c87c2b9a60d976723311833f54f85e5c9037ab36", func := "bigtop/bigtoplaw09.PurseCover", spec := "purseCover", unfollowed := true, recurses := true, apart := false }
def PurseCoverSaid : Prop := purseCoverRow.holds Try.pinned (OpenSpec.ofChange purseCoverSpec)

/-- ITS FALSE NEIGHBOUR: 'it returns false'. Refute it at one input. -/
def purseCoverWrong : ChangeSpec := { name := "purseCover", fn := fun _ => fun
  | [d1, d2, d3, d4] => { results := [.lit (.bool false)], args := [d1, d2, d3, d4] }
  | _ => none }
def PurseCoverWrongFalsely : Prop := purseCoverRow.holds Try.pinned (OpenSpec.ofChange purseCoverWrong)

/-- 'bigtoplaw09.PurseChange': WHATEVER THE INPUT: true; the input reads as it did. -/
def purseChangeSpec : ChangeSpec := { name := "purseChange", fn := fun _ => fun
  | [d1, d2] => { results := [.lit (.bool true)], args := [d1, d2] }
  | _ => none }
def purseChangeRow : OpenClaim := { program := "ytnjdlhhgnamigaa", sum := "520a94d77aa7a979d2e0aff8c87c2b9a60d976723311833f54f85e5c9037ab36", func := "bigtop/bigtoplaw09.PurseChange", spec := "purseChange", unfollowed := true, recurses := true, apart := false }
def PurseChangeSaid : Prop := purseChangeRow.holds Try.pinned (OpenSpec.ofChange purseChangeSpec)

/-- ITS FALSE NEIGHBOUR: 'it returns false'. Refute it at one input. -/
def purseChangeWrong : ChangeSpec := { name := "purseChange", fn := fun _ => fun
  | [d1, d2] => { results := [.lit (.bool false)], args := [d1, d2] }
  | _ => none }
def PurseChangeWrongFalsely : Prop := purseChangeRow.holds Try.pinned (OpenSpec.ofChange purseChangeWrong)

/-- 'bigtoplaw09.PurseCoins': WHATEVER THE INPUT: true; the input reads as it did. -/
def purseCoinsSpec : ChangeSpec := { name := "purseCoins", fn := fun _ => fun
  | [d1, d2] => { results := [.lit (.bool true)], args := [d1, d2] }
  | _ => none }
def purseCoinsRow : OpenClaim := { program := "ytnjdlhhgnamigaa", sum := "520a94d77aa7a979d2e0aff8c87c2b9a60d976723311833f54f85e5c9037ab36", func := "bigtop/bigtoplaw09.PurseCoins", spec := "purseCoins", unfollowed := true, recurses := true, apart := false }
def PurseCoinsSaid : Prop := purseCoinsRow.holds Try.pinned (OpenSpec.ofChange purseCoinsSpec)

/-- ITS FALSE NEIGHBOUR: 'it returns false'. Refute it at one input. -/
def purseCoinsWrong : ChangeSpec := { name := "purseCoins", fn := fun _ => fun
  | [d1, d2] => { results := [.lit (.bool false)], args := [d1, d2] }
  | _ => none }
def PurseCoinsWrongFalsely : Prop := purseCoinsRow.holds Try.pinned (OpenSpec.ofChange purseCoinsWrong)

/-- 'bigtoplaw09.PurseSeals': WHATEVER THE INPUT: true; the input reads as it did. -/
def purseSealsSpec : ChangeSpec := { name := "purseSeals", fn := fun _ => fun
  | [d1, d2, d3, d4] => { results := [.lit (.bool true)], args := [d1, d2, d3, d4] }
  | _ => none }
def purseSealsRow : OpenClaim := { program := "ytnjdlhhgnamigaa", sum := "520a94d77aa7a979d2e0aff8c87c2b9a60d976723311833f54f85e5c9037ab36", func := "bigtop/bigtoplaw09.PurseSeals", spec := "purseSeals", unfollowed := true, recurses := true, apart := false }
def PurseSealsSaid : Prop := purseSealsRow.holds Try.pinned (OpenSpec.ofChange purseSealsSpec)

/-- ITS FALSE NEIGHBOUR: 'it returns false'. Refute it at one input. -/
def purseSealsWrong : ChangeSpec := { name := "purseSeals", fn := fun _ => fun
  | [d1, d2, d3, d4] => { results := [.lit (.bool false)], args := [d1, d2, d3, d4] }
  | _ => none }
def PurseSealsWrongFalsely : Prop := purseSealsRow.holds Try.pinned (OpenSpec.ofChange purseSealsWrong)

/-- 'bigtoplaw09.PurseLedgers': WHATEVER THE INPUT: true; the input reads as it did. -/
def purseLedgersSpec : ChangeSpec := { name := "purseLedgers", fn := fun _ => fun
  | [d1, d2, d3, d4] => { results := [.lit (.bool true)], args := [d1, d2, d3, d4] }
  | _ => none }
def purseLedgersRow : OpenClaim := { program := "ytnjdlhhgnamigaa", sum := "520a94d77aa7a979d2e0aff8c87c2b9a60d976723311833f54f85e5c9037ab36", func := "bigtop/bigtoplaw09.PurseLedgers", spec := "purseLedgers", unfollowed := true, recurses := true, apart := false }
def PurseLedgersSaid : Prop := purseLedgersRow.holds Try.pinned (OpenSpec.ofChange purseLedgersSpec)

/-- ITS FALSE NEIGHBOUR: 'it returns false'. Refute it at one input. -/
def purseLedgersWrong : ChangeSpec := { name := "purseLedgers", fn := fun _ => fun
  | [d1, d2, d3, d4] => { results := [.lit (.bool false)], args := [d1, d2, d3, d4] }
  | _ => none }
def PurseLedgersWrongFalsely : Prop := purseLedgersRow.holds Try.pinned (OpenSpec.ofChange purseLedgersWrong)

/-- 'bigtoplaw09.PurseGaps': WHATEVER THE INPUT: true; the input reads as it did. -/
def purseGapsSpec : ChangeSpec := { name := "purseGaps", fn := fun _ => fun
  | [d] => { results := [.lit (.bool true)], args := [d] }
  | _ => none }
def purseGapsRow : OpenClaim := { program := "ytnjdlhhgnamigaa", sum := "520a94d77aa7a979d2e0aff8c87c2b9a60d976723311833f54f85e5c9037ab36", func := "bigtop/bigtoplaw09.PurseGaps", spec := "purseGaps", unfollowed := true, recurses := true, apart := false }
def PurseGapsSaid : Prop := purseGapsRow.holds Try.pinned (OpenSpec.ofChange purseGapsSpec)

/-- ITS FALSE NEIGHBOUR: 'it returns false'. Refute it at one input. -/
def purseGapsWrong : ChangeSpec := { name := "purseGaps", fn := fun _ => fun
  | [d] => { results := [.lit (.bool false)], args := [d] }
  | _ => none }
def PurseGapsWrongFalsely : Prop := purseGapsRow.holds Try.pinned (OpenSpec.ofChange purseGapsWrong)

/-- 'bigtoplaw09.PurseFewest': WHATEVER THE INPUT: true; the input reads as it did. -/
def purseFewestSpec : ChangeSpec := { name := "purseFewest", fn := fun _ => fun
  | [d1, d2, d3, d4] => { results := [.lit (.bool true)], args := [d1, d2, d3, d4] }
  | _ => none }
def purseFewestRow : OpenClaim := { program := "ytnjdlhhgnamigaa", sum := "520a94d77aa7a979d2e0aff8c87c2b9a60d976723311833f54f85e5c9037ab36", func := "bigtop/bigtoplaw09.PurseFewest", spec := "purseFewest", unfollowed := true, recurses := true, apart := false }
def PurseFewestSaid : Prop := purseFewestRow.holds Try.pinned (OpenSpec.ofChange purseFewestSpec)

/-- ITS FALSE NEIGHBOUR: 'it returns false'. Refute it at one input. -/
def purseFewestWrong : ChangeSpec := { name := "purseFewest", fn := fun _ => fun
  | [d1, d2, d3, d4] => { results := [.lit (.bool false)], args := [d1, d2, d3, d4] }
  | _ => none }
def PurseFewestWrongFalsely : Prop := purseFewestRow.holds Try.pinned (OpenSpec.ofChange purseFewestWrong)

/-- 'bigtoplaw09.PurseNames': WHATEVER THE INPUT: true; the input reads as it did. -/
def purseNamesSpec : ChangeSpec := { name := "purseNames", fn := fun _ => fun
  | [] => { results := [.lit (.bool true)], args := [] }
  | _ => none }
def purseNamesRow : OpenClaim := { program := "ytnjdlhhgnamigaa", sum := "520a94d77aa7a979d2e0aff8c87c2b9a60d976723311833f54f85e5c9037ab36", func := "bigtop/bigtoplaw09.PurseNames", spec := "purseNames", unfollowed := true, recurses := true, apart := false }
def PurseNamesSaid : Prop := purseNamesRow.holds Try.pinned (OpenSpec.ofChange purseNamesSpec)

/-- ITS FALSE NEIGHBOUR: 'it returns false'. Refute it at one input. -/
def purseNamesWrong : ChangeSpec := { name := "purseNames", fn := fun _ => fun
  | [] => { results := [.lit (.bool false)], args := [] }
  | _ => none }
def PurseNamesWrongFalsely : Prop := purseNamesRow.holds Try.pinned (OpenSpec.ofChange purseNamesWrong)

/- THE SECOND FORM. 'bulk': how many values and letters a reading holds, each counted each time it is reached (what is shared counts as often as it is met; a slice's spare places count too). A statement '..UptoSaid' is the law's where the arguments, and the package variables that the reading takes, are together of bulk at most 1048576: NARROWER than '..Said'. Prove '..Said' where nothing that the law and all that it calls make is longer than what came in: it says more and counts as full. Else prove '..UptoSaid'. A law counts once. -/
mutual
def uptoBulk {H : Type} : DataW H → Nat
  | .lit (.string bytes) => bytes.length + 1
  | .lit _ => 1
  | .nil => 1
  | .ptr d => uptoBulk d + 1
  | .slice elems spare => uptoBulkAll elems + uptoBulkAll spare + 1
  | .agg parts => uptoBulkAll parts + 1
  | .iface _ d => uptoBulk d + 1
  | .map entries => uptoBulkEntries entries + 1
  | .held _ => 1
def uptoBulkAll {H : Type} : List (DataW H) → Nat
  | [] => 0
  | d :: r => uptoBulk d + uptoBulkAll r
def uptoBulkEntries {H : Type} : List (Lit × DataW H) → Nat
  | [] => 0
  | x :: r => uptoBulkEntry x + uptoBulkEntries r
def uptoBulkEntry {H : Type} : Lit × DataW H → Nat
  | (.string bytes, d) => bytes.length + uptoBulk d + 1
  | (_, d) => uptoBulk d + 1
 end
def uptoSmall : (H : Type) → List (DataW H) → Bool := fun _ ds => decide (uptoBulkAll ds ≤ 1048576)
def OpenSpec.upto (s : _root_.Go.ChangeSpec) : _root_.Go.OpenSpec := { _root_.Go.OpenSpec.ofChange s with cond := some uptoSmall }

/-- 'bigtoplaw09.PurseSettles', WHERE WHAT IT READS IS OF BULK AT MOST 1048576: true; the input reads as it did. -/
def purseSettlesUptoRow : OpenClaim := { program := "ytnjdlhhgnamigaa", sum := "520a94d77aa7a979d2e0aff8c87c2b9a60d976723311833f54f85e5c9037ab36", func := "bigtop/bigtoplaw09.PurseSettles", spec := "purseSettles", unfollowed := true, recurses := true, apart := false, narrowed := true }
def PurseSettlesUptoSaid : Prop := purseSettlesUptoRow.holds Try.pinned (OpenSpec.upto purseSettlesSpec)

/-- 'bigtoplaw09.PurseClaims', WHERE WHAT IT READS IS OF BULK AT MOST 1048576: true; the input reads as it did. -/
def purseClaimsUptoRow : OpenClaim := { program := "ytnjdlhhgnamigaa", sum := "520a94d77aa7a979d2e0aff8c87c2b9a60d976723311833f54f85e5c9037ab36", func := "bigtop/bigtoplaw09.PurseClaims", spec := "purseClaims", unfollowed := true, recurses := true, apart := false, narrowed := true }
def PurseClaimsUptoSaid : Prop := purseClaimsUptoRow.holds Try.pinned (OpenSpec.upto purseClaimsSpec)

/-- 'bigtoplaw09.PurseAll', WHERE WHAT IT READS IS OF BULK AT MOST 1048576: true; the input reads as it did. -/
def purseAllUptoRow : OpenClaim := { program := "ytnjdlhhgnamigaa", sum := "520a94d77aa7a979d2e0aff8c87c2b9a60d976723311833f54f85e5c9037ab36", func := "bigtop/bigtoplaw09.PurseAll", spec := "purseAll", unfollowed := true, recurses := true, apart := false, narrowed := true }
def PurseAllUptoSaid : Prop := purseAllUptoRow.holds Try.pinned (OpenSpec.upto purseAllSpec)

/-- 'bigtoplaw09.PurseRanks', WHERE WHAT IT READS IS OF BULK AT MOST 1048576: true; the input reads as it did. -/
def purseRanksUptoRow : OpenClaim := { program := "ytnjdlhhgnamigaa", sum := "520a94d77aa7a979d2e0aff8c87c2b9a60d976723311833f54f85e5c9037ab36", func := "bigtop/bigtoplaw09.PurseRanks", spec := "purseRanks", unfollowed := true, recurses := true, apart := false, narrowed := true }
def PurseRanksUptoSaid : Prop := purseRanksUptoRow.holds Try.pinned (OpenSpec.upto purseRanksSpec)

/-- 'bigtoplaw09.PurseMore', WHERE WHAT IT READS IS OF BULK AT MOST 1048576: true; the input reads as it did. -/
def purseMoreUptoRow : OpenClaim := { program := "ytnjdlhhgnamigaa", sum := "520a94d77aa7a979d2e0aff8c87c2b9a60d976723311833f54f85e5c9037ab36", func := "bigtop/bigtoplaw09.PurseMore", spec := "purseMore", unfollowed := true, recurses := true, apart := false, narrowed := true }
def PurseMoreUptoSaid : Prop := purseMoreUptoRow.holds Try.pinned (OpenSpec.upto purseMoreSpec)

/-- 'bigtoplaw09.PurseCover', WHERE WHAT IT READS IS OF BULK AT MOST 1048576: true; the input reads as it did. -/
def purseCoverUptoRow : OpenClaim := { program := "ytnjdlhhgnamigaa", sum := "520a94d77aa7a979d2e0aff8c87c2b9a60d976723311833f54f85e5c9037ab36", func := "bigtop/bigtoplaw09.PurseCover", spec := "purseCover", unfollowed := true, recurses := true, apart := false, narrowed := true }
def PurseCoverUptoSaid : Prop := purseCoverUptoRow.holds Try.pinned (OpenSpec.upto purseCoverSpec)

/-- 'bigtoplaw09.PurseChange', WHERE WHAT IT READS IS OF BULK AT MOST 1048576: true; the input reads as it did. -/
def purseChangeUptoRow : OpenClaim := { program := "ytnjdlhhgnamigaa", sum := "520a94d77aa7a979d2e0aff8c87c2b9a60d976723311833f54f85e5c9037ab36", func := "bigtop/bigtoplaw09.PurseChange", spec := "purseChange", unfollowed := true, recurses := true, apart := false, narrowed := true }
def PurseChangeUptoSaid : Prop := purseChangeUptoRow.holds Try.pinned (OpenSpec.upto purseChangeSpec)

/-- 'bigtoplaw09.PurseCoins', WHERE WHAT IT READS IS OF BULK AT MOST 1048576: true; the input reads as it did. -/
def purseCoinsUptoRow : OpenClaim := { program := "ytnjdlhhgnamigaa", sum := "520a94d77aa7a979d2e0aff8c87c2b9a60d976723311833f54f85e5c9037ab36", func := "bigtop/bigtoplaw09.PurseCoins", spec := "purseCoins", unfollowed := true, recurses := true, apart := false, narrowed := true }
def PurseCoinsUptoSaid : Prop := purseCoinsUptoRow.holds Try.pinned (OpenSpec.upto purseCoinsSpec)

/-- 'bigtoplaw09.PurseSeals', WHERE WHAT IT READS IS OF BULK AT MOST 1048576: true; the input reads as it did. -/
def purseSealsUptoRow : OpenClaim := { program := "ytnjdlhhgnamigaa", sum := "520a94d77aa7a979d2e0aff8c87c2b9a60d976723311833f54f85e5c9037ab36", func := "bigtop/bigtoplaw09.PurseSeals", spec := "purseSeals", unfollowed := true, recurses := true, apart := false, narrowed := true }
def PurseSealsUptoSaid : Prop := purseSealsUptoRow.holds Try.pinned (OpenSpec.upto purseSealsSpec)

/-- 'bigtoplaw09.PurseLedgers', WHERE WHAT IT READS IS OF BULK AT MOST 1048576: true; the input reads as it did. -/
def purseLedgersUptoRow : OpenClaim := { program := "ytnjdlhhgnamigaa", sum := "520a94d77aa7a979d2e0aff8c87c2b9a60d976723311833f54f85e5c9037ab36", func := "bigtop/bigtoplaw09.PurseLedgers", spec := "purseLedgers", unfollowed := true, recurses := true, apart := false, narrowed := true }
def PurseLedgersUptoSaid : Prop := purseLedgersUptoRow.holds Try.pinned (OpenSpec.upto purseLedgersSpec)

/-- 'bigtoplaw09.PurseGaps', WHERE WHAT IT READS IS OF BULK AT MOST 1048576: true; the input reads as it did. -/
def purseGapsUptoRow : OpenClaim := { program := "ytnjdlhhgnamigaa", sum := "520a94d77aa7a979d2e0aff8c87c2b9a60d976723311833f54f85e5c9037ab36", func := "bigtop/bigtoplaw09.PurseGaps", spec := "purseGaps", unfollowed := true, recurses := true, apart := false, narrowed := true }
def PurseGapsUptoSaid : Prop := purseGapsUptoRow.holds Try.pinned (OpenSpec.upto purseGapsSpec)

/-- 'bigtoplaw09.PurseFewest', WHERE WHAT IT READS IS OF BULK AT MOST 1048576: true; the input reads as it did. -/
def purseFewestUptoRow : OpenClaim := { program := "ytnjdlhhgnamigaa", sum := "520a94d77aa7a979d2e0aff8c87c2b9a60d976723311833f54f85e5c9037ab36", func := "bigtop/bigtoplaw09.PurseFewest", spec := "purseFewest", unfollowed := true, recurses := true, apart := false, narrowed := true }
def PurseFewestUptoSaid : Prop := purseFewestUptoRow.holds Try.pinned (OpenSpec.upto purseFewestSpec)

/-- 'bigtoplaw09.PurseNames', WHERE WHAT IT READS IS OF BULK AT MOST 1048576: true; the input reads as it did. -/
def purseNamesUptoRow : OpenClaim := { program := "ytnjdlhhgnamigaa", sum := "520a94d77aa7a979d2e0aff8c87c2b9a60d976723311833f54f85e5c9037ab36", func := "bigtop/bigtoplaw09.PurseNames", spec := "purseNames", unfollowed := true, recurses := true, apart := false, narrowed := true }
def PurseNamesUptoSaid : Prop := purseNamesUptoRow.holds Try.pinned (OpenSpec.upto purseNamesSpec)

end Rows
end Go.Proofs.Ytnjdlhhgnamigaa

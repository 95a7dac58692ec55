/-
  No cell of these rows narrows 'for every input' (looked for: loops, veiled, ifaces, maps, wideKeys, modest, calm, conditions, laid).
  DERIVED. THE GIVEN ROWS OF THIS SEAT. 15 by the template 'for every input the law returns true; each argument reads behind the call as it read before'; 0 by the template 'total and deterministic' (their statements: YtofdfcngmkkfdaaTotals.lean).
  GIVEN WITH THE SEED: the statements are not yours to turn. If you find one false, say at which input.
  Laid BY PROGRAM, IN A SANDBOX (cutbox-rows.mjs): the forced cells as the released guide's own fill.sh prints them over the translation bc086d0ed285909d… (all of the seat's roots in one cut). By AI agents, Wed Nov 11 2026. No macro, syntax, notation, axiom, sorry.
-/
import Derived.Test.YtofdfcngmkkfdaaChecked
import GoSem.Claim
import GoSem.ClaimJoined
import GoSem.ClaimMapViews
import Derived.JoinedTies
import Derived.KernelRfl
namespace Go.Proofs.Ytofdfcngmkkfdaa
/- THE CELL 'sum', in the pinned program and in every row, IS THE sha256 OF THE DUMP (.gsa) THAT YtofdfcngmkkfdaaProg.lean LOADS. Nothing in Lean hashes anything: it is a label: what it is worth is what the hold of that sum in a sandbox is worth. -/
noncomputable def Try.pinned : Pinned := { name := "ytofdfcngmkkfdaa", sum := "bc086d0ed285909d4a2eda58e55e3404cc74e940e276a0af59cd16fdfb01a167", checked := Try.checked }
namespace Rows
def none {H : Type} : Left H := { results := [], args := [] }

/-- 'scriptoriumlaw07.PathMailboxes': WHATEVER THE INPUT: true; the input reads as it did. -/
def pathMailboxesSpec : ChangeSpec := { name := "pathMailboxes", fn := fun _ => fun
  | [d] => { results := [.lit (.bool true)], args := [d] }
  | _ => none }
def pathMailboxesRow : OpenClaim := { program := "ytofdfcngmkkfdaa", sum := "bc086d0ed285909d4a2eda58e55e3404cc74e940e276a0af59cd16fdfb01a167", func := "scriptorium/scriptoriumlaw07.PathMailboxes", spec := "pathMailboxes", inPlace := ["internal/bytealg.IndexByteString", "internal/bytealg.IndexString"], unfollowed := true, recurses := true, named := ["internal/bytealg.MaxLen"], apart := false }
def PathMailboxesSaid : Prop := pathMailboxesRow.holds Try.pinned (OpenSpec.ofChange pathMailboxesSpec)

/-- ITS FALSE NEIGHBOUR: 'it returns false'. Refute it at one input. -/
def pathMailboxesWrong : ChangeSpec := { name := "pathMailboxes", fn := fun _ => fun
  | [d] => { results := [.lit (.bool false)], args := [d] }
  | _ => none }
def PathMailboxesWrongFalsely : Prop := pathMailboxesRow.holds Try.pinned (OpenSpec.ofChange pathMailboxesWrong)

/-- 'scriptoriumlaw07.PathParses': WHATEVER THE INPUT: true; the input reads as it did. -/
def pathParsesSpec : ChangeSpec := { name := "pathParses", fn := fun _ => fun
  | [d] => { results := [.lit (.bool true)], args := [d] }
  | _ => none }
def pathParsesRow : OpenClaim := { program := "ytofdfcngmkkfdaa", sum := "bc086d0ed285909d4a2eda58e55e3404cc74e940e276a0af59cd16fdfb01a167", func := "scriptorium/scriptoriumlaw07.PathParses", spec := "pathParses", inPlace := ["internal/bytealg.IndexByteString", "internal/bytealg.IndexString"], unfollowed := true, recurses := true, named := ["internal/bytealg.MaxLen"], apart := false }
def PathParsesSaid : Prop := pathParsesRow.holds Try.pinned (OpenSpec.ofChange pathParsesSpec)

/-- ITS FALSE NEIGHBOUR: 'it returns false'. Refute it at one input. -/
def pathParsesWrong : ChangeSpec := { name := "pathParses", fn := fun _ => fun
  | [d] => { results := [.lit (.bool false)], args := [d] }
  | _ => none }
def PathParsesWrongFalsely : Prop := pathParsesRow.holds Try.pinned (OpenSpec.ofChange pathParsesWrong)

/-- 'scriptoriumlaw07.PathBack': WHATEVER THE INPUT: true; the input reads as it did. -/
def pathBackSpec : ChangeSpec := { name := "pathBack", fn := fun _ => fun
  | [d1, d2] => { results := [.lit (.bool true)], args := [d1, d2] }
  | _ => none }
def pathBackRow : OpenClaim := { program := "ytofdfcngmkkfdaa", sum := "bc086d0ed285909d4a2eda58e55e3404cc74e940e276a0af59cd16fdfb01a167", func := "scriptorium/scriptoriumlaw07.PathBack", spec := "pathBack", inPlace := ["internal/bytealg.IndexByteString", "internal/bytealg.IndexString"], unfollowed := true, recurses := true, named := ["internal/bytealg.MaxLen"], apart := false }
def PathBackSaid : Prop := pathBackRow.holds Try.pinned (OpenSpec.ofChange pathBackSpec)

/-- ITS FALSE NEIGHBOUR: 'it returns false'. Refute it at one input. -/
def pathBackWrong : ChangeSpec := { name := "pathBack", fn := fun _ => fun
  | [d1, d2] => { results := [.lit (.bool false)], args := [d1, d2] }
  | _ => none }
def PathBackWrongFalsely : Prop := pathBackRow.holds Try.pinned (OpenSpec.ofChange pathBackWrong)

/-- 'scriptoriumlaw13.RetainChecks': WHATEVER THE INPUT: true; the input reads as it did. -/
def retainChecksSpec : ChangeSpec := { name := "retainChecks", fn := fun _ => fun
  | [d1, d2] => { results := [.lit (.bool true)], args := [d1, d2] }
  | _ => none }
def retainChecksRow : OpenClaim := { program := "ytofdfcngmkkfdaa", sum := "bc086d0ed285909d4a2eda58e55e3404cc74e940e276a0af59cd16fdfb01a167", func := "scriptorium/scriptoriumlaw13.RetainChecks", spec := "retainChecks", inPlace := ["internal/bytealg.IndexByteString", "internal/bytealg.IndexString"], unfollowed := true, recurses := true, named := ["internal/bytealg.MaxLen"], apart := false }
def RetainChecksSaid : Prop := retainChecksRow.holds Try.pinned (OpenSpec.ofChange retainChecksSpec)

/-- ITS FALSE NEIGHBOUR: 'it returns false'. Refute it at one input. -/
def retainChecksWrong : ChangeSpec := { name := "retainChecks", fn := fun _ => fun
  | [d1, d2] => { results := [.lit (.bool false)], args := [d1, d2] }
  | _ => none }
def RetainChecksWrongFalsely : Prop := retainChecksRow.holds Try.pinned (OpenSpec.ofChange retainChecksWrong)

/-- 'scriptoriumlaw13.RetainUntil': WHATEVER THE INPUT: true; the input reads as it did. -/
def retainUntilSpec : ChangeSpec := { name := "retainUntil", fn := fun _ => fun
  | [d1, d2] => { results := [.lit (.bool true)], args := [d1, d2] }
  | _ => none }
def retainUntilRow : OpenClaim := { program := "ytofdfcngmkkfdaa", sum := "bc086d0ed285909d4a2eda58e55e3404cc74e940e276a0af59cd16fdfb01a167", func := "scriptorium/scriptoriumlaw13.RetainUntil", spec := "retainUntil", inPlace := ["internal/bytealg.IndexByteString", "internal/bytealg.IndexString"], unfollowed := true, recurses := true, named := ["internal/bytealg.MaxLen"], apart := false }
def RetainUntilSaid : Prop := retainUntilRow.holds Try.pinned (OpenSpec.ofChange retainUntilSpec)

/-- ITS FALSE NEIGHBOUR: 'it returns false'. Refute it at one input. -/
def retainUntilWrong : ChangeSpec := { name := "retainUntil", fn := fun _ => fun
  | [d1, d2] => { results := [.lit (.bool false)], args := [d1, d2] }
  | _ => none }
def RetainUntilWrongFalsely : Prop := retainUntilRow.holds Try.pinned (OpenSpec.ofChange retainUntilWrong)

/-- 'scriptoriumlaw13.RetainOver': WHATEVER THE INPUT: true; the input reads as it did. -/
def retainOverSpec : ChangeSpec := { name := "retainOver", fn := fun _ => fun
  | [d1, d2, d3, d4] => { results := [.lit (.bool true)], args := [d1, d2, d3, d4] }
  | _ => none }
def retainOverRow : OpenClaim := { program := "ytofdfcngmkkfdaa", sum := "bc086d0ed285909d4a2eda58e55e3404cc74e940e276a0af59cd16fdfb01a167", func := "scriptorium/scriptoriumlaw13.RetainOver", spec := "retainOver", inPlace := ["internal/bytealg.IndexByteString", "internal/bytealg.IndexString"], unfollowed := true, recurses := true, named := ["internal/bytealg.MaxLen"], apart := false }
def RetainOverSaid : Prop := retainOverRow.holds Try.pinned (OpenSpec.ofChange retainOverSpec)

/-- ITS FALSE NEIGHBOUR: 'it returns false'. Refute it at one input. -/
def retainOverWrong : ChangeSpec := { name := "retainOver", fn := fun _ => fun
  | [d1, d2, d3, d4] => { results := [.lit (.bool false)], args := [d1, d2, d3, d4] }
  | _ => none }
def RetainOverWrongFalsely : Prop := retainOverRow.holds Try.pinned (OpenSpec.ofChange retainOverWrong)

/-- 'scriptoriumlaw13.RetainEver': WHATEVER THE INPUT: true; the input reads as it did. -/
def retainEverSpec : ChangeSpec := { name := "retainEver", fn := fun _ => fun
  | [d1, d2, d3, d4, d5] => { results := [.lit (.bool true)], args := [d1, d2, d3, d4, d5] }
  | _ => none }
def retainEverRow : OpenClaim := { program := "ytofdfcngmkkfdaa", sum := "bc086d0ed285909d4a2eda58e55e3404cc74e940e276a0af59cd16fdfb01a167", func := "scriptorium/scriptoriumlaw13.RetainEver", spec := "retainEver", inPlace := ["internal/bytealg.IndexByteString", "internal/bytealg.IndexString"], unfollowed := true, recurses := true, named := ["internal/bytealg.MaxLen"], apart := false }
def RetainEverSaid : Prop := retainEverRow.holds Try.pinned (OpenSpec.ofChange retainEverSpec)

/-- ITS FALSE NEIGHBOUR: 'it returns false'. Refute it at one input. -/
def retainEverWrong : ChangeSpec := { name := "retainEver", fn := fun _ => fun
  | [d1, d2, d3, d4, d5] => { results := [.lit (.bool false)], args := [d1, d2, d3, d4, d5] }
  | _ => none }
def RetainEverWrongFalsely : Prop := retainEverRow.holds Try.pinned (OpenSpec.ofChange retainEverWrong)

/-- 'scriptoriumlaw13.RetainMore': WHATEVER THE INPUT: true; the input reads as it did. -/
def retainMoreSpec : ChangeSpec := { name := "retainMore", fn := fun _ => fun
  | [d1, d2, d3, d4] => { results := [.lit (.bool true)], args := [d1, d2, d3, d4] }
  | _ => none }
def retainMoreRow : OpenClaim := { program := "ytofdfcngmkkfdaa", sum := "bc086d0ed285909d4a2eda58e55e3404cc74e940e276a0af59cd16fdfb01a167", func := "scriptorium/scriptoriumlaw13.RetainMore", spec := "retainMore", inPlace := ["internal/bytealg.IndexByteString", "internal/bytealg.IndexString"], unfollowed := true, recurses := true, named := ["internal/bytealg.MaxLen"], apart := false }
def RetainMoreSaid : Prop := retainMoreRow.holds Try.pinned (OpenSpec.ofChange retainMoreSpec)

/-- ITS FALSE NEIGHBOUR: 'it returns false'. Refute it at one input. -/
def retainMoreWrong : ChangeSpec := { name := "retainMore", fn := fun _ => fun
  | [d1, d2, d3, d4] => { results := [.lit (.bool false)], args := [d1, d2, d3, d4] }
  | _ => none }
def RetainMoreWrongFalsely : Prop := retainMoreRow.holds Try.pinned (OpenSpec.ofChange retainMoreWrong)

/-- 'scriptoriumlaw07.PathParts': WHATEVER THE INPUT: true; the input reads as it did. -/
def pathPartsSpec : ChangeSpec := { name := "pathParts", fn := fun _ => fun
  | [d] => { results := [.lit (.bool true)], args := [d] }
  | _ => none }
def pathPartsRow : OpenClaim := { program := "ytofdfcngmkkfdaa", sum := "bc086d0ed285909d4a2eda58e55e3404cc74e940e276a0af59cd16fdfb01a167", func := "scriptorium/scriptoriumlaw07.PathParts", spec := "pathParts", inPlace := ["internal/bytealg.IndexByteString", "internal/bytealg.IndexString"], unfollowed := true, recurses := true, named := ["internal/bytealg.MaxLen"], apart := false }
def PathPartsSaid : Prop := pathPartsRow.holds Try.pinned (OpenSpec.ofChange pathPartsSpec)

/-- ITS FALSE NEIGHBOUR: 'it returns false'. Refute it at one input. -/
def pathPartsWrong : ChangeSpec := { name := "pathParts", fn := fun _ => fun
  | [d] => { results := [.lit (.bool false)], args := [d] }
  | _ => none }
def PathPartsWrongFalsely : Prop := pathPartsRow.holds Try.pinned (OpenSpec.ofChange pathPartsWrong)

/-- 'scriptoriumlaw07.PathFolds': WHATEVER THE INPUT: true; the input reads as it did. -/
def pathFoldsSpec : ChangeSpec := { name := "pathFolds", fn := fun _ => fun
  | [d] => { results := [.lit (.bool true)], args := [d] }
  | _ => none }
def pathFoldsRow : OpenClaim := { program := "ytofdfcngmkkfdaa", sum := "bc086d0ed285909d4a2eda58e55e3404cc74e940e276a0af59cd16fdfb01a167", func := "scriptorium/scriptoriumlaw07.PathFolds", spec := "pathFolds", inPlace := ["internal/bytealg.IndexByteString", "internal/bytealg.IndexString"], unfollowed := true, recurses := true, named := ["internal/bytealg.MaxLen"], apart := false }
def PathFoldsSaid : Prop := pathFoldsRow.holds Try.pinned (OpenSpec.ofChange pathFoldsSpec)

/-- ITS FALSE NEIGHBOUR: 'it returns false'. Refute it at one input. -/
def pathFoldsWrong : ChangeSpec := { name := "pathFolds", fn := fun _ => fun
  | [d] => { results := [.lit (.bool false)], args := [d] }
  | _ => none }
def PathFoldsWrongFalsely : Prop := pathFoldsRow.holds Try.pinned (OpenSpec.ofChange pathFoldsWrong)

/-- 'scriptoriumlaw14.HoldPlaces': WHATEVER THE INPUT: true; the input reads as it did. -/
def holdPlacesSpec : ChangeSpec := { name := "holdPlaces", fn := fun _ => fun
  | [d1, d2] => { results := [.lit (.bool true)], args := [d1, d2] }
  | _ => none }
def holdPlacesRow : OpenClaim := { program := "ytofdfcngmkkfdaa", sum := "bc086d0ed285909d4a2eda58e55e3404cc74e940e276a0af59cd16fdfb01a167", func := "scriptorium/scriptoriumlaw14.HoldPlaces", spec := "holdPlaces", inPlace := ["internal/bytealg.IndexByteString", "internal/bytealg.IndexString"], unfollowed := true, recurses := true, named := ["internal/bytealg.MaxLen"], apart := false }
def HoldPlacesSaid : Prop := holdPlacesRow.holds Try.pinned (OpenSpec.ofChange holdPlacesSpec)

/-- ITS FALSE NEIGHBOUR: 'it returns false'. Refute it at one input. -/
def holdPlacesWrong : ChangeSpec := { name := "holdPlaces", fn := fun _ => fun
  | [d1, d2] => { results := [.lit (.bool false)], args := [d1, d2] }
  | _ => none }
def HoldPlacesWrongFalsely : Prop := holdPlacesRow.holds Try.pinned (OpenSpec.ofChange holdPlacesWrong)

/-- 'scriptoriumlaw14.HoldCovers': WHATEVER THE INPUT: true; the input reads as it did. -/
def holdCoversSpec : ChangeSpec := { name := "holdCovers", fn := fun _ => fun
  | [d1, d2] => { results := [.lit (.bool true)], args := [d1, d2] }
  | _ => none }
def holdCoversRow : OpenClaim := { program := "ytofdfcngmkkfdaa", sum := "bc086d0ed285909d4a2eda58e55e3404cc74e940e276a0af59cd16fdfb01a167", func := "scriptorium/scriptoriumlaw14.HoldCovers", spec := "holdCovers", inPlace := ["internal/bytealg.IndexByteString", "internal/bytealg.IndexString"], unfollowed := true, recurses := true, named := ["internal/bytealg.MaxLen"], apart := false }
def HoldCoversSaid : Prop := holdCoversRow.holds Try.pinned (OpenSpec.ofChange holdCoversSpec)

/-- ITS FALSE NEIGHBOUR: 'it returns false'. Refute it at one input. -/
def holdCoversWrong : ChangeSpec := { name := "holdCovers", fn := fun _ => fun
  | [d1, d2] => { results := [.lit (.bool false)], args := [d1, d2] }
  | _ => none }
def HoldCoversWrongFalsely : Prop := holdCoversRow.holds Try.pinned (OpenSpec.ofChange holdCoversWrong)

/-- 'scriptoriumlaw13.RetainChooses': WHATEVER THE INPUT: true; the input reads as it did. -/
def retainChoosesSpec : ChangeSpec := { name := "retainChooses", fn := fun _ => fun
  | [d1, d2, d3, d4] => { results := [.lit (.bool true)], args := [d1, d2, d3, d4] }
  | _ => none }
def retainChoosesRow : OpenClaim := { program := "ytofdfcngmkkfdaa", sum := "bc086d0ed285909d4a2eda58e55e3404cc74e940e276a0af59cd16fdfb01a167", func := "scriptorium/scriptoriumlaw13.RetainChooses", spec := "retainChooses", inPlace := ["internal/bytealg.IndexByteString", "internal/bytealg.IndexString"], unfollowed := true, recurses := true, named := ["internal/bytealg.MaxLen"], apart := false }
def RetainChoosesSaid : Prop := retainChoosesRow.holds Try.pinned (OpenSpec.ofChange retainChoosesSpec)

/-- ITS FALSE NEIGHBOUR: 'it returns false'. Refute it at one input. -/
def retainChoosesWrong : ChangeSpec := { name := "retainChooses", fn := fun _ => fun
  | [d1, d2, d3, d4] => { results := [.lit (.bool false)], args := [d1, d2, d3, d4] }
  | _ => none }
def RetainChoosesWrongFalsely : Prop := retainChoosesRow.holds Try.pinned (OpenSpec.ofChange retainChoosesWrong)

/-- 'scriptoriumlaw14.HoldMore': WHATEVER THE INPUT: true; the input reads as it did. -/
def holdMoreSpec : ChangeSpec := { name := "holdMore", fn := fun _ => fun
  | [d1, d2, d3, d4] => { results := [.lit (.bool true)], args := [d1, d2, d3, d4] }
  | _ => none }
def holdMoreRow : OpenClaim := { program := "ytofdfcngmkkfdaa", sum := "bc086d0ed285909d4a2eda58e55e3404cc74e940e276a0af59cd16fdfb01a167", func := "scriptorium/scriptoriumlaw14.HoldMore", spec := "holdMore", inPlace := ["internal/bytealg.IndexByteString", "internal/bytealg.IndexString"], unfollowed := true, recurses := true, named := ["internal/bytealg.MaxLen"], apart := false }
def HoldMoreSaid : Prop := holdMoreRow.holds Try.pinned (OpenSpec.ofChange holdMoreSpec)

/-- ITS FALSE NEIGHBOUR: 'it returns false'. Refute it at one input. -/
def holdMoreWrong : ChangeSpec := { name := "holdMore", fn := fun _ => fun
  | [d1, d2, d3, d4] => { results := [.lit (.bool false)], args := [d1, d2, d3, d4] }
  | _ => none }
def HoldMoreWrongFalsely : Prop := holdMoreRow.holds Try.pinned (OpenSpec.ofChange holdMoreWrong)

/-- 'scriptoriumlaw14.HoldLifts': WHATEVER THE INPUT: true; the input reads as it did. -/
def holdLiftsSpec : ChangeSpec := { name := "holdLifts", fn := fun _ => fun
  | [d1, d2] => { results := [.lit (.bool true)], args := [d1, d2] }
  | _ => none }
def holdLiftsRow : OpenClaim := { program := "ytofdfcngmkkfdaa", sum := "bc086d0ed285909d4a2eda58e55e3404cc74e940e276a0af59cd16fdfb01a167", func := "scriptorium/scriptoriumlaw14.HoldLifts", spec := "holdLifts", inPlace := ["internal/bytealg.IndexByteString", "internal/bytealg.IndexString"], unfollowed := true, recurses := true, named := ["internal/bytealg.MaxLen"], apart := false }
def HoldLiftsSaid : Prop := holdLiftsRow.holds Try.pinned (OpenSpec.ofChange holdLiftsSpec)

/-- ITS FALSE NEIGHBOUR: 'it returns false'. Refute it at one input. -/
def holdLiftsWrong : ChangeSpec := { name := "holdLifts", fn := fun _ => fun
  | [d1, d2] => { results := [.lit (.bool false)], args := [d1, d2] }
  | _ => none }
def HoldLiftsWrongFalsely : Prop := holdLiftsRow.holds Try.pinned (OpenSpec.ofChange holdLiftsWrong)

/- THE SECOND FORM. 'bulk': how many values and letters a reading holds, each counted each time it is reached (what is shared counts as often as it is met; a slice's spare places count too). A statement '..UptoSaid' is the law's where the arguments, and the package variables that the reading takes, are together of bulk at most 1048576: NARROWER than '..Said'. Prove '..Said' where nothing that the law and all that it calls make is longer than what came in: it says more and counts as full. Else prove '..UptoSaid'. A law counts once. -/
mutual
def uptoBulk {H : Type} : DataW H → Nat
  | .lit (.string bytes) => bytes.length + 1
  | .lit _ => 1
  | .nil => 1
  | .ptr d => uptoBulk d + 1
  | .slice elems spare => uptoBulkAll elems + uptoBulkAll spare + 1
  | .agg parts => uptoBulkAll parts + 1
  | .iface _ d => uptoBulk d + 1
  | .map entries => uptoBulkEntries entries + 1
  | .held _ => 1
def uptoBulkAll {H : Type} : List (DataW H) → Nat
  | [] => 0
  | d :: r => uptoBulk d + uptoBulkAll r
def uptoBulkEntries {H : Type} : List (Lit × DataW H) → Nat
  | [] => 0
  | x :: r => uptoBulkEntry x + uptoBulkEntries r
def uptoBulkEntry {H : Type} : Lit × DataW H → Nat
  | (.string bytes, d) => bytes.length + uptoBulk d + 1
  | (_, d) => uptoBulk d + 1
 end
def uptoSmall : (H : Type) → List (DataW H) → Bool := fun _ ds => decide (uptoBulkAll ds ≤ 1048576)
def OpenSpec.upto (s : _root_.Go.ChangeSpec) : _root_.Go.OpenSpec := { _root_.Go.OpenSpec.ofChange s with cond := some uptoSmall }

/-- 'scriptoriumlaw07.PathMailboxes', WHERE WHAT IT READS IS OF BULK AT MOST 1048576: true; the input reads as it did. -/
def pathMailboxesUptoRow : OpenClaim := { program := "ytofdfcngmkkfdaa", sum := "bc086d0ed285909d4a2eda58e55e3404cc74e940e276a0af59cd16fdfb01a167", func := "scriptorium/scriptoriumlaw07.PathMailboxes", spec := "pathMailboxes", inPlace := ["internal/bytealg.IndexByteString", "internal/bytealg.IndexString"], unfollowed := true, recurses := true, named := ["internal/bytealg.MaxLen"], apart := false, narrowed := true }
def PathMailboxesUptoSaid : Prop := pathMailboxesUptoRow.holds Try.pinned (OpenSpec.upto pathMailboxesSpec)

/-- 'scriptoriumlaw07.PathParses', WHERE WHAT IT READS IS OF BULK AT MOST 1048576: true; the input reads as it did. -/
def pathParsesUptoRow : OpenClaim := { program := "ytofdfcngmkkfdaa", sum := "bc086d0ed285909d4a2eda58e55e3404cc74e940e276a0af59cd16fdfb01a167", func := "scriptorium/scriptoriumlaw07.PathParses", spec := "pathParses", inPlace := ["internal/bytealg.IndexByteString", "internal/bytealg.IndexString"], unfollowed := true, recurses := true, named := ["internal/bytealg.MaxLen"], apart := false, narrowed := true }
def PathParsesUptoSaid : Prop := pathParsesUptoRow.holds Try.pinned (OpenSpec.upto pathParsesSpec)

/-- 'scriptoriumlaw07.PathBack', WHERE WHAT IT READS IS OF BULK AT MOST 1048576: true; the input reads as it did. -/
def pathBackUptoRow : OpenClaim := { program := "ytofdfcngmkkfdaa", sum := "bc086d0ed285909d4a2eda58e55e3404cc74e940e276a0af59cd16fdfb01a167", func := "scriptorium/scriptoriumlaw07.PathBack", spec := "pathBack", inPlace := ["internal/bytealg.IndexByteString", "internal/bytealg.IndexString"], unfollowed := true, recurses := true, named := ["internal/bytealg.MaxLen"], apart := false, narrowed := true }
def PathBackUptoSaid : Prop := pathBackUptoRow.holds Try.pinned (OpenSpec.upto pathBackSpec)

/-- 'scriptoriumlaw13.RetainChecks', WHERE WHAT IT READS IS OF BULK AT MOST 1048576: true; the input reads as it did. -/
def retainChecksUptoRow : OpenClaim := { program := "ytofdfcngmkkfdaa", sum := "bc086d0ed285909d4a2eda58e55e3404cc74e940e276a0af59cd16fdfb01a167", func := "scriptorium/scriptoriumlaw13.RetainChecks", spec := "retainChecks", inPlace := ["internal/bytealg.IndexByteString", "internal/bytealg.IndexString"], unfollowed := true, recurses := true, named := ["internal/bytealg.MaxLen"], apart := false, narrowed := true }
def RetainChecksUptoSaid : Prop := retainChecksUptoRow.holds Try.pinned (OpenSpec.upto retainChecksSpec)

/-- 'scriptoriumlaw13.RetainUntil', WHERE WHAT IT READS IS OF BULK AT MOST 1048576: true; the input reads as it did. -/
def retainUntilUptoRow : OpenClaim := { program := "ytofdfcngmkkfdaa", sum := "bc086d0ed285909d4a2eda58e55e3404cc74e940e276a0af59cd16fdfb01a167", func := "scriptorium/scriptoriumlaw13.RetainUntil", spec := "retainUntil", inPlace := ["internal/bytealg.IndexByteString", "internal/bytealg.IndexString"], unfollowed := true, recurses := true, named := ["internal/bytealg.MaxLen"], apart := false, narrowed := true }
def RetainUntilUptoSaid : Prop := retainUntilUptoRow.holds Try.pinned (OpenSpec.upto retainUntilSpec)

/-- 'scriptoriumlaw13.RetainOver', WHERE WHAT IT READS IS OF BULK AT MOST 1048576: true; the input reads as it did. -/
def retainOverUptoRow : OpenClaim := { program := "ytofdfcngmkkfdaa", sum := "bc086d0ed285909d4a2eda58e55e3404cc74e940e276a0af59cd16fdfb01a167", func := "scriptorium/scriptoriumlaw13.RetainOver", spec := "retainOver", inPlace := ["internal/bytealg.IndexByteString", "internal/bytealg.IndexString"], unfollowed := true, recurses := true, named := ["internal/bytealg.MaxLen"], apart := false, narrowed := true }
def RetainOverUptoSaid : Prop := retainOverUptoRow.holds Try.pinned (OpenSpec.upto retainOverSpec)

/-- 'scriptoriumlaw13.RetainEver', WHERE WHAT IT READS IS OF BULK AT MOST 1048576: true; the input reads as it did. -/
def retainEverUptoRow : OpenClaim := { program := "ytofdfcngmkkfdaa", sum := "bc086d0ed285909d4a2eda58e55e3404cc74e940e276a0af59cd16fdfb01a167", func := "scriptorium/scriptoriumlaw13.RetainEver", spec := "retainEver", inPlace := ["internal/bytealg.IndexByteString", "internal/bytealg.IndexString"], unfollowed := true, recurses := true, named := ["internal/bytealg.MaxLen"], apart := false, narrowed := true }
def RetainEverUptoSaid : Prop := retainEverUptoRow.holds Try.pinned (OpenSpec.upto retainEverSpec)

/-- 'scriptoriumlaw13.RetainMore', WHERE WHAT IT READS IS OF BULK AT MOST 1048576: true; the input reads as it did. -/
def retainMoreUptoRow : OpenClaim := { program := "ytofdfcngmkkfdaa", sum := "bc086d0ed285909d4a2eda58e55e3404cc74e940e276a0af59cd16fdfb01a167", func := "scriptorium/scriptoriumlaw13.RetainMore", spec := "retainMore", inPlace := ["internal/bytealg.IndexByteString", "internal/bytealg.IndexString"], unfollowed := true, recurses := true, named := ["internal/bytealg.MaxLen"], apart := false, narrowed := true }
def RetainMoreUptoSaid : Prop := retainMoreUptoRow.holds Try.pinned (OpenSpec.upto retainMoreSpec)

/-- 'scriptoriumlaw07.PathParts', WHERE WHAT IT READS IS OF BULK AT MOST 1048576: true; the input reads as it did. -/
def pathPartsUptoRow : OpenClaim := { program := "ytofdfcngmkkfdaa", sum := "bc086d0ed285909d4a2eda58e55e3404cc74e940e276a0af59cd16fdfb01a167", func := "scriptorium/scriptoriumlaw07.PathParts", spec := "pathParts", inPlace := ["internal/bytealg.IndexByteString", "internal/bytealg.IndexString"], unfollowed := true, recurses := true, named := ["internal/bytealg.MaxLen"], apart := false, narrowed := true }
def PathPartsUptoSaid : Prop := pathPartsUptoRow.holds Try.pinned (OpenSpec.upto pathPartsSpec)

/-- 'scriptoriumlaw07.PathFolds', WHERE WHAT IT READS IS OF BULK AT MOST 1048576: true; the input reads as it did. -/
def pathFoldsUptoRow : OpenClaim := { program := "ytofdfcngmkkfdaa", sum := "bc086d0ed285909d4a2eda58e55e3404cc74e940e276a0af59cd16fdfb01a167", func := "scriptorium/scriptoriumlaw07.PathFolds", spec := "pathFolds", inPlace := ["internal/bytealg.IndexByteString", "internal/bytealg.IndexString"], unfollowed := true, recurses := true, named := ["internal/bytealg.MaxLen"], apart := false, narrowed := true }
def PathFoldsUptoSaid : Prop := pathFoldsUptoRow.holds Try.pinned (OpenSpec.upto pathFoldsSpec)

/-- 'scriptoriumlaw14.HoldPlaces', WHERE WHAT IT READS IS OF BULK AT MOST 1048576: true; the input reads as it did. -/
def holdPlacesUptoRow : OpenClaim := { program := "ytofdfcngmkkfdaa", sum := "bc086d0ed285909d4a2eda58e55e3404cc74e940e276a0af59cd16fdfb01a167", func := "scriptorium/scriptoriumlaw14.HoldPlaces", spec := "holdPlaces", inPlace := ["internal/bytealg.IndexByteString", "internal/bytealg.IndexString"], unfollowed := true, recurses := true, named := ["internal/bytealg.MaxLen"], apart := false, narrowed := true }
def HoldPlacesUptoSaid : Prop := holdPlacesUptoRow.holds Try.pinned (OpenSpec.upto holdPlacesSpec)

/-- 'scriptoriumlaw14.HoldCovers', WHERE WHAT IT READS IS OF BULK AT MOST 1048576: true; the input reads as it did. -/
def holdCoversUptoRow : OpenClaim := { program := "ytofdfcngmkkfdaa", sum := "bc086d0ed285909d4a2eda58e55e3404cc74e940e276a0af59cd16fdfb01a167", func := "scriptorium/scriptoriumlaw14.HoldCovers", spec := "holdCovers", inPlace := ["internal/bytealg.IndexByteString", "internal/bytealg.IndexString"], unfollowed := true, recurses := true, named := ["internal/bytealg.MaxLen"], apart := false, narrowed := true }
def HoldCoversUptoSaid : Prop := holdCoversUptoRow.holds Try.pinned (OpenSpec.upto holdCoversSpec)

/-- 'scriptoriumlaw13.RetainChooses', WHERE WHAT IT READS IS OF BULK AT MOST 1048576: true; the input reads as it did. -/
def retainChoosesUptoRow : OpenClaim := { program := "ytofdfcngmkkfdaa", sum := "bc086d0ed285909d4a2eda58e55e3404cc74e940e276a0af59cd16fdfb01a167", func := "scriptorium/scriptoriumlaw13.RetainChooses", spec := "retainChooses", inPlace := ["internal/bytealg.IndexByteString", "internal/bytealg.IndexString"], unfollowed := true, recurses := true, named := ["internal/bytealg.MaxLen"], apart := false, narrowed := true }
def RetainChoosesUptoSaid : Prop := retainChoosesUptoRow.holds Try.pinned (OpenSpec.upto retainChoosesSpec)

/-- 'scriptoriumlaw14.HoldMore', WHERE WHAT IT READS IS OF BULK AT MOST 1048576: true; the input reads as it did. -/
def holdMoreUptoRow : OpenClaim := { program := "ytofdfcngmkkfdaa", sum := "bc086d0ed285909d4a2eda58e55e3404cc74e940e276a0af59cd16fdfb01a167", func := "scriptorium/scriptoriumlaw14.HoldMore", spec := "holdMore", inPlace := ["internal/bytealg.IndexByteString", "internal/bytealg.IndexString"], unfollowed := true, recurses := true, named := ["internal/bytealg.MaxLen"], apart := false, narrowed := true }
def HoldMoreUptoSaid : Prop := holdMoreUptoRow.holds Try.pinned (OpenSpec.upto holdMoreSpec)

/-- 'scriptoriumlaw14.HoldLifts', WHERE WHAT IT READS IS OF BULK AT MOST 1048576: true; the input reads as it did. -/
def holdLiftsUptoRow : OpenClaim := { program := "ytofdfcngmkkfdaa", sum := "bc086d0ed285909d4a2eda58e55e3404cc74e940e276a0af59cd16fdfb01a167", func := "scriptorium/scriptoriumlaw14.HoldLifts", spec := "holdLifts", inPlace := ["internal/bytealg.IndexByteString", "internal/bytealg.IndexString"], unfollowed := true, recurses := true, named := ["internal/bytealg.MaxLen"], apart := false, narrowed := true }
def HoldLiftsUptoSaid : Prop := holdLiftsUptoRow.holds Try.pinned (OpenSpec.upto holdLiftsSpec)

end Rows
end Go.Proofs.Ytofdfcngmkkfdaa

/-
  No cell of these rows narrows 'for every input' (looked for: loops, veiled, ifaces, maps, wideKeys, modest, calm, conditions, laid).
  DERIVED. THE GIVEN ROWS OF THIS SEAT. 10 by the template 'for every input the law returns true; each argument reads behind the call as it read before'; 0 by the template 'total and deterministic' (their statements: YthcggjehihkdoaaTotals.lean).
  GIVEN WITH THE SEED: the statements are not yours to turn. If you find one false, say at which input.
  Laid BY PROGRAM, IN A SANDBOX (cutbox-rows.mjs): the forced cells as the released guide's own fill.sh prints them over the translation b1598494821bdeb3… (all of the seat's roots in one cut). By AI agents, Wed Nov 11 2026. No macro, syntax, notation, axiom, sorry.
-/
import Derived.Test.YthcggjehihkdoaaChecked
import GoSem.Claim
import GoSem.ClaimJoined
import GoSem.ClaimMapViews
import Derived.JoinedTies
import Derived.KernelRfl
namespace Go.Proofs.Ythcggjehihkdoaa
/- THE CELL 'sum', in the pinned program and in every row, IS THE sha256 OF THE DUMP (.gsa) THAT YthcggjehihkdoaaProg.lean LOADS. Nothing in Lean hashes anything: it is a label: what it is worth is what the hold of that sum in a sandbox is worth. -/
noncomputable def Try.pinned : Pinned := { name := "ythcggjehihkdoaa", sum := "b1598494821bdeb306fc5680896e3ef0714347197ce1f6241c6fd2bfe708bce7", checked := Try.checked }
namespace Rows
def none {H : Type} : Left H := { results := [], args := [] }

/-- 'scriptoriumlaw09.DotsWhole': WHATEVER THE INPUT: true; the input reads as it did. -/
def dotsWholeSpec : ChangeSpec := { name := "dotsWhole", fn := fun _ => fun
  | [d] => { results := [.lit (.bool true)], args := [d] }
  | _ => none }
def dotsWholeRow : OpenClaim := { program := "ythcggjehihkdoaa", sum := "b1598494821bdeb306fc5680896e3ef0714347197ce1f6241c6fd2bfe708bce7", func := "scriptorium/scriptoriumlaw09.DotsWhole", spec := "dotsWhole", inPlace := ["internal/bytealg.IndexByte", "internal/bytealg.Index"], unfollowed := true, recurses := true, named := ["internal/bytealg.MaxLen"], apart := false }
def DotsWholeSaid : Prop := dotsWholeRow.holds Try.pinned (OpenSpec.ofChange dotsWholeSpec)

/-- ITS FALSE NEIGHBOUR: 'it returns false'. Refute it at one input. -/
def dotsWholeWrong : ChangeSpec := { name := "dotsWhole", fn := fun _ => fun
  | [d] => { results := [.lit (.bool false)], args := [d] }
  | _ => none }
def DotsWholeWrongFalsely : Prop := dotsWholeRow.holds Try.pinned (OpenSpec.ofChange dotsWholeWrong)

/-- 'scriptoriumlaw09.DotsStuffs': WHATEVER THE INPUT: true; the input reads as it did. -/
def dotsStuffsSpec : ChangeSpec := { name := "dotsStuffs", fn := fun _ => fun
  | [d] => { results := [.lit (.bool true)], args := [d] }
  | _ => none }
def dotsStuffsRow : OpenClaim := { program := "ythcggjehihkdoaa", sum := "b1598494821bdeb306fc5680896e3ef0714347197ce1f6241c6fd2bfe708bce7", func := "scriptorium/scriptoriumlaw09.DotsStuffs", spec := "dotsStuffs", inPlace := ["internal/bytealg.IndexByte", "internal/bytealg.Index"], unfollowed := true, recurses := true, named := ["internal/bytealg.MaxLen"], apart := false }
def DotsStuffsSaid : Prop := dotsStuffsRow.holds Try.pinned (OpenSpec.ofChange dotsStuffsSpec)

/-- ITS FALSE NEIGHBOUR: 'it returns false'. Refute it at one input. -/
def dotsStuffsWrong : ChangeSpec := { name := "dotsStuffs", fn := fun _ => fun
  | [d] => { results := [.lit (.bool false)], args := [d] }
  | _ => none }
def DotsStuffsWrongFalsely : Prop := dotsStuffsRow.holds Try.pinned (OpenSpec.ofChange dotsStuffsWrong)

/-- 'scriptoriumlaw09.DotsScans': WHATEVER THE INPUT: true; the input reads as it did. -/
def dotsScansSpec : ChangeSpec := { name := "dotsScans", fn := fun _ => fun
  | [d] => { results := [.lit (.bool true)], args := [d] }
  | _ => none }
def dotsScansRow : OpenClaim := { program := "ythcggjehihkdoaa", sum := "b1598494821bdeb306fc5680896e3ef0714347197ce1f6241c6fd2bfe708bce7", func := "scriptorium/scriptoriumlaw09.DotsScans", spec := "dotsScans", inPlace := ["internal/bytealg.IndexByte", "internal/bytealg.Index"], unfollowed := true, recurses := true, named := ["internal/bytealg.MaxLen"], apart := false }
def DotsScansSaid : Prop := dotsScansRow.holds Try.pinned (OpenSpec.ofChange dotsScansSpec)

/-- ITS FALSE NEIGHBOUR: 'it returns false'. Refute it at one input. -/
def dotsScansWrong : ChangeSpec := { name := "dotsScans", fn := fun _ => fun
  | [d] => { results := [.lit (.bool false)], args := [d] }
  | _ => none }
def DotsScansWrongFalsely : Prop := dotsScansRow.holds Try.pinned (OpenSpec.ofChange dotsScansWrong)

/-- 'scriptoriumlaw09.DotsBack': WHATEVER THE INPUT: true; the input reads as it did. -/
def dotsBackSpec : ChangeSpec := { name := "dotsBack", fn := fun _ => fun
  | [d1, d2] => { results := [.lit (.bool true)], args := [d1, d2] }
  | _ => none }
def dotsBackRow : OpenClaim := { program := "ythcggjehihkdoaa", sum := "b1598494821bdeb306fc5680896e3ef0714347197ce1f6241c6fd2bfe708bce7", func := "scriptorium/scriptoriumlaw09.DotsBack", spec := "dotsBack", inPlace := ["internal/bytealg.IndexByte", "internal/bytealg.Index"], unfollowed := true, recurses := true, named := ["internal/bytealg.MaxLen"], apart := false }
def DotsBackSaid : Prop := dotsBackRow.holds Try.pinned (OpenSpec.ofChange dotsBackSpec)

/-- ITS FALSE NEIGHBOUR: 'it returns false'. Refute it at one input. -/
def dotsBackWrong : ChangeSpec := { name := "dotsBack", fn := fun _ => fun
  | [d1, d2] => { results := [.lit (.bool false)], args := [d1, d2] }
  | _ => none }
def DotsBackWrongFalsely : Prop := dotsBackRow.holds Try.pinned (OpenSpec.ofChange dotsBackWrong)

/-- 'scriptoriumlaw09.DotsCut': WHATEVER THE INPUT: true; the input reads as it did. -/
def dotsCutSpec : ChangeSpec := { name := "dotsCut", fn := fun _ => fun
  | [d1, d2] => { results := [.lit (.bool true)], args := [d1, d2] }
  | _ => none }
def dotsCutRow : OpenClaim := { program := "ythcggjehihkdoaa", sum := "b1598494821bdeb306fc5680896e3ef0714347197ce1f6241c6fd2bfe708bce7", func := "scriptorium/scriptoriumlaw09.DotsCut", spec := "dotsCut", inPlace := ["internal/bytealg.IndexByte", "internal/bytealg.Index"], unfollowed := true, recurses := true, named := ["internal/bytealg.MaxLen"], apart := false }
def DotsCutSaid : Prop := dotsCutRow.holds Try.pinned (OpenSpec.ofChange dotsCutSpec)

/-- ITS FALSE NEIGHBOUR: 'it returns false'. Refute it at one input. -/
def dotsCutWrong : ChangeSpec := { name := "dotsCut", fn := fun _ => fun
  | [d1, d2] => { results := [.lit (.bool false)], args := [d1, d2] }
  | _ => none }
def DotsCutWrongFalsely : Prop := dotsCutRow.holds Try.pinned (OpenSpec.ofChange dotsCutWrong)

/-- 'scriptoriumlaw12.TokenSets': WHATEVER THE INPUT: true; the input reads as it did. -/
def tokenSetsSpec : ChangeSpec := { name := "tokenSets", fn := fun _ => fun
  | [d] => { results := [.lit (.bool true)], args := [d] }
  | _ => none }
def tokenSetsRow : OpenClaim := { program := "ythcggjehihkdoaa", sum := "b1598494821bdeb306fc5680896e3ef0714347197ce1f6241c6fd2bfe708bce7", func := "scriptorium/scriptoriumlaw12.TokenSets", spec := "tokenSets", unfollowed := true, recurses := true, apart := false }
def TokenSetsSaid : Prop := tokenSetsRow.holds Try.pinned (OpenSpec.ofChange tokenSetsSpec)

/-- ITS FALSE NEIGHBOUR: 'it returns false'. Refute it at one input. -/
def tokenSetsWrong : ChangeSpec := { name := "tokenSets", fn := fun _ => fun
  | [d] => { results := [.lit (.bool false)], args := [d] }
  | _ => none }
def TokenSetsWrongFalsely : Prop := tokenSetsRow.holds Try.pinned (OpenSpec.ofChange tokenSetsWrong)

/-- 'scriptoriumlaw12.TokenWords': WHATEVER THE INPUT: true; the input reads as it did. -/
def tokenWordsSpec : ChangeSpec := { name := "tokenWords", fn := fun _ => fun
  | [d] => { results := [.lit (.bool true)], args := [d] }
  | _ => none }
def tokenWordsRow : OpenClaim := { program := "ythcggjehihkdoaa", sum := "b1598494821bdeb306fc5680896e3ef0714347197ce1f6241c6fd2bfe708bce7", func := "scriptorium/scriptoriumlaw12.TokenWords", spec := "tokenWords", unfollowed := true, recurses := true, apart := false }
def TokenWordsSaid : Prop := tokenWordsRow.holds Try.pinned (OpenSpec.ofChange tokenWordsSpec)

/-- ITS FALSE NEIGHBOUR: 'it returns false'. Refute it at one input. -/
def tokenWordsWrong : ChangeSpec := { name := "tokenWords", fn := fun _ => fun
  | [d] => { results := [.lit (.bool false)], args := [d] }
  | _ => none }
def TokenWordsWrongFalsely : Prop := tokenWordsRow.holds Try.pinned (OpenSpec.ofChange tokenWordsWrong)

/-- 'scriptoriumlaw12.TokenJoined': WHATEVER THE INPUT: true; the input reads as it did. -/
def tokenJoinedSpec : ChangeSpec := { name := "tokenJoined", fn := fun _ => fun
  | [d1, d2] => { results := [.lit (.bool true)], args := [d1, d2] }
  | _ => none }
def tokenJoinedRow : OpenClaim := { program := "ythcggjehihkdoaa", sum := "b1598494821bdeb306fc5680896e3ef0714347197ce1f6241c6fd2bfe708bce7", func := "scriptorium/scriptoriumlaw12.TokenJoined", spec := "tokenJoined", unfollowed := true, recurses := true, apart := false }
def TokenJoinedSaid : Prop := tokenJoinedRow.holds Try.pinned (OpenSpec.ofChange tokenJoinedSpec)

/-- ITS FALSE NEIGHBOUR: 'it returns false'. Refute it at one input. -/
def tokenJoinedWrong : ChangeSpec := { name := "tokenJoined", fn := fun _ => fun
  | [d1, d2] => { results := [.lit (.bool false)], args := [d1, d2] }
  | _ => none }
def TokenJoinedWrongFalsely : Prop := tokenJoinedRow.holds Try.pinned (OpenSpec.ofChange tokenJoinedWrong)

/-- 'scriptoriumlaw12.TokenFolds': WHATEVER THE INPUT: true; the input reads as it did. -/
def tokenFoldsSpec : ChangeSpec := { name := "tokenFolds", fn := fun _ => fun
  | [d] => { results := [.lit (.bool true)], args := [d] }
  | _ => none }
def tokenFoldsRow : OpenClaim := { program := "ythcggjehihkdoaa", sum := "b1598494821bdeb306fc5680896e3ef0714347197ce1f6241c6fd2bfe708bce7", func := "scriptorium/scriptoriumlaw12.TokenFolds", spec := "tokenFolds", unfollowed := true, recurses := true, apart := false }
def TokenFoldsSaid : Prop := tokenFoldsRow.holds Try.pinned (OpenSpec.ofChange tokenFoldsSpec)

/-- ITS FALSE NEIGHBOUR: 'it returns false'. Refute it at one input. -/
def tokenFoldsWrong : ChangeSpec := { name := "tokenFolds", fn := fun _ => fun
  | [d] => { results := [.lit (.bool false)], args := [d] }
  | _ => none }
def TokenFoldsWrongFalsely : Prop := tokenFoldsRow.holds Try.pinned (OpenSpec.ofChange tokenFoldsWrong)

/-- 'scriptoriumlaw12.TokenTerms': WHATEVER THE INPUT: true; the input reads as it did. -/
def tokenTermsSpec : ChangeSpec := { name := "tokenTerms", fn := fun _ => fun
  | [d1, d2] => { results := [.lit (.bool true)], args := [d1, d2] }
  | _ => none }
def tokenTermsRow : OpenClaim := { program := "ythcggjehihkdoaa", sum := "b1598494821bdeb306fc5680896e3ef0714347197ce1f6241c6fd2bfe708bce7", func := "scriptorium/scriptoriumlaw12.TokenTerms", spec := "tokenTerms", unfollowed := true, recurses := true, apart := false }
def TokenTermsSaid : Prop := tokenTermsRow.holds Try.pinned (OpenSpec.ofChange tokenTermsSpec)

/-- ITS FALSE NEIGHBOUR: 'it returns false'. Refute it at one input. -/
def tokenTermsWrong : ChangeSpec := { name := "tokenTerms", fn := fun _ => fun
  | [d1, d2] => { results := [.lit (.bool false)], args := [d1, d2] }
  | _ => none }
def TokenTermsWrongFalsely : Prop := tokenTermsRow.holds Try.pinned (OpenSpec.ofChange tokenTermsWrong)

/- THE SECOND FORM. 'bulk': how many values and letters a reading holds, each counted each time it is reached (what is shared counts as often as it is met; a slice's spare places count too). A statement '..UptoSaid' is the law's where the arguments, and the package variables that the reading takes, are together of bulk at most 1048576: NARROWER than '..Said'. Prove '..Said' where nothing that the law and all that it calls make is longer than what came in: it says more and counts as full. Else prove '..UptoSaid'. A law counts once. -/
mutual
def uptoBulk {H : Type} : DataW H → Nat
  | .lit (.string bytes) => bytes.length + 1
  | .lit _ => 1
  | .nil => 1
  | .ptr d => uptoBulk d + 1
  | .slice elems spare => uptoBulkAll elems + uptoBulkAll spare + 1
  | .agg parts => uptoBulkAll parts + 1
  | .iface _ d => uptoBulk d + 1
  | .map entries => uptoBulkEntries entries + 1
  | .held _ => 1
def uptoBulkAll {H : Type} : List (DataW H) → Nat
  | [] => 0
  | d :: r => uptoBulk d + uptoBulkAll r
def uptoBulkEntries {H : Type} : List (Lit × DataW H) → Nat
  | [] => 0
  | x :: r => uptoBulkEntry x + uptoBulkEntries r
def uptoBulkEntry {H : Type} : Lit × DataW H → Nat
  | (.string bytes, d) => bytes.length + uptoBulk d + 1
  | (_, d) => uptoBulk d + 1
 end
def uptoSmall : (H : Type) → List (DataW H) → Bool := fun _ ds => decide (uptoBulkAll ds ≤ 1048576)
def OpenSpec.upto (s : _root_.Go.ChangeSpec) : _root_.Go.OpenSpec := { _root_.Go.OpenSpec.ofChange s with cond := some uptoSmall }

/-- 'scriptoriumlaw09.DotsWhole', WHERE WHAT IT READS IS OF BULK AT MOST 1048576: true; the input reads as it did. -/
def dotsWholeUptoRow : OpenClaim := { program := "ythcggjehihkdoaa", sum := "b1598494821bdeb306fc5680896e3ef0714347197ce1f6241c6fd2bfe708bce7", func := "scriptorium/scriptoriumlaw09.DotsWhole", spec := "dotsWhole", inPlace := ["internal/bytealg.IndexByte", "internal/bytealg.Index"], unfollowed := true, recurses := true, named := ["internal/bytealg.MaxLen"], apart := false, narrowed := true }
def DotsWholeUptoSaid : Prop := dotsWholeUptoRow.holds Try.pinned (OpenSpec.upto dotsWholeSpec)

/-- 'scriptoriumlaw09.DotsStuffs', WHERE WHAT IT READS IS OF BULK AT MOST 1048576: true; the input reads as it did. -/
def dotsStuffsUptoRow : OpenClaim := { program := "ythcggjehihkdoaa", sum := "b1598494821bdeb306fc5680896e3ef0714347197ce1f6241c6fd2bfe708bce7", func := "scriptorium/scriptoriumlaw09.DotsStuffs", spec := "dotsStuffs", inPlace := ["internal/bytealg.IndexByte", "internal/bytealg.Index"], unfollowed := true, recurses := true, named := ["internal/bytealg.MaxLen"], apart := false, narrowed := true }
def DotsStuffsUptoSaid : Prop := dotsStuffsUptoRow.holds Try.pinned (OpenSpec.upto dotsStuffsSpec)

/-- 'scriptoriumlaw09.DotsScans', WHERE WHAT IT READS IS OF BULK AT MOST 1048576: true; the input reads as it did. -/
def dotsScansUptoRow : OpenClaim := { program := "ythcggjehihkdoaa", sum := "b1598494821bdeb306fc5680896e3ef0714347197ce1f6241c6fd2bfe708bce7", func := "scriptorium/scriptoriumlaw09.DotsScans", spec := "dotsScans", inPlace := ["internal/bytealg.IndexByte", "internal/bytealg.Index"], unfollowed := true, recurses := true, named := ["internal/bytealg.MaxLen"], apart := false, narrowed := true }
def DotsScansUptoSaid : Prop := dotsScansUptoRow.holds Try.pinned (OpenSpec.upto dotsScansSpec)

/-- 'scriptoriumlaw09.DotsBack', WHERE WHAT IT READS IS OF BULK AT MOST 1048576: true; the input reads as it did. -/
def dotsBackUptoRow : OpenClaim := { program := "ythcggjehihkdoaa", sum := "b1598494821bdeb306fc5680896e3ef0714347197ce1f6241c6fd2bfe708bce7", func := "scriptorium/scriptoriumlaw09.DotsBack", spec := "dotsBack", inPlace := ["internal/bytealg.IndexByte", "internal/bytealg.Index"], unfollowed := true, recurses := true, named := ["internal/bytealg.MaxLen"], apart := false, narrowed := true }
def DotsBackUptoSaid : Prop := dotsBackUptoRow.holds Try.pinned (OpenSpec.upto dotsBackSpec)

/-- 'scriptoriumlaw09.DotsCut', WHERE WHAT IT READS IS OF BULK AT MOST 1048576: true; the input reads as it did. -/
def dotsCutUptoRow : OpenClaim := { program := "ythcggjehihkdoaa", sum := "b1598494821bdeb306fc5680896e3ef0714347197ce1f6241c6fd2bfe708bce7", func := "scriptorium/scriptoriumlaw09.DotsCut", spec := "dotsCut", inPlace := ["internal/bytealg.IndexByte", "internal/bytealg.Index"], unfollowed := true, recurses := true, named := ["internal/bytealg.MaxLen"], apart := false, narrowed := true }
def DotsCutUptoSaid : Prop := dotsCutUptoRow.holds Try.pinned (OpenSpec.upto dotsCutSpec)

/-- 'scriptoriumlaw12.TokenSets', WHERE WHAT IT READS IS OF BULK AT MOST 1048576: true; the input reads as it did. -/
def tokenSetsUptoRow : OpenClaim := { program := "ythcggjehihkdoaa", sum := "b1598494821bdeb306fc5680896e3ef0714347197ce1f6241c6fd2bfe708bce7", func := "scriptorium/scriptoriumlaw12.TokenSets", spec := "tokenSets", unfollowed := true, recurses := true, apart := false, narrowed := true }
def TokenSetsUptoSaid : Prop := tokenSetsUptoRow.holds Try.pinned (OpenSpec.upto tokenSetsSpec)

/-- 'scriptoriumlaw12.TokenWords', WHERE WHAT IT READS IS OF BULK AT MOST 1048576: true; the input reads as it did. -/
def tokenWordsUptoRow : OpenClaim := { program := "ythcggjehihkdoaa", sum := "b1598494821bdeb306fc5680896e3ef0714347197ce1f6241c6fd2bfe708bce7", func := "scriptorium/scriptoriumlaw12.TokenWords", spec := "tokenWords", unfollowed := true, recurses := true, apart := false, narrowed := true }
def TokenWordsUptoSaid : Prop := tokenWordsUptoRow.holds Try.pinned (OpenSpec.upto tokenWordsSpec)

/-- 'scriptoriumlaw12.TokenJoined', WHERE WHAT IT READS IS OF BULK AT MOST 1048576: true; the input reads as it did. -/
def tokenJoinedUptoRow : OpenClaim := { program := "ythcggjehihkdoaa", sum := "b1598494821bdeb306fc5680896e3ef0714347197ce1f6241c6fd2bfe708bce7", func := "scriptorium/scriptoriumlaw12.TokenJoined", spec := "tokenJoined", unfollowed := true, recurses := true, apart := false, narrowed := true }
def TokenJoinedUptoSaid : Prop := tokenJoinedUptoRow.holds Try.pinned (OpenSpec.upto tokenJoinedSpec)

/-- 'scriptoriumlaw12.TokenFolds', WHERE WHAT IT READS IS OF BULK AT MOST 1048576: true; the input reads as it did. -/
def tokenFoldsUptoRow : OpenClaim := { program := "ythcggjehihkdoaa", sum := "b1598494821bdeb306fc5680896e3ef0714347197ce1f6241c6fd2bfe708bce7", func := "scriptorium/scriptoriumlaw12.TokenFolds", spec := "tokenFolds", unfollowed := true, recurses := true, apart := false, narrowed := true }
def TokenFoldsUptoSaid : Prop := tokenFoldsUptoRow.holds Try.pinned (OpenSpec.upto tokenFoldsSpec)

/-- 'scriptoriumlaw12.TokenTerms', WHERE WHAT IT READS IS OF BULK AT MOST 1048576: true; the input reads as it did. -/
def tokenTermsUptoRow : OpenClaim := { program := "ythcggjehihkdoaa", sum := "b1598494821bdeb306fc5680896e3ef0714347197ce1f6241c6fd2bfe708bce7", func := "scriptorium/scriptoriumlaw12.TokenTerms", spec := "tokenTerms", unfollowed := true, recurses := true, apart := false, narrowed := true }
def TokenTermsUptoSaid : Prop := tokenTermsUptoRow.holds Try.pinned (OpenSpec.upto tokenTermsSpec)

end Rows
end Go.Proofs.Ythcggjehihkdoaa

/-
  No cell of these rows narrows 'for every input' (looked for: loops, veiled, ifaces, maps, wideKeys, modest, calm, conditions, laid).
  DERIVED. THE GIVEN ROWS OF THIS SEAT. 11 by the template 'for every input the law returns true; each argument reads behind the call as it read before'; 0 by the template 'total and deterministic' (their statements: YtkipnhhdlohnfaaTotals.lean).
  GIVEN WITH THE SEED: the statements are not yours to turn. If you find one false, say at which input.
  Laid BY PROGRAM, IN A SANDBOX (cutbox-rows.mjs): the forced cells as the released guide's own fill.sh prints them over the translation ae0dc8514956fc3a… (all of the seat's roots in one cut). By AI agents, Wed Nov 11 2026. No macro, syntax, notation, axiom, sorry.
-/
import Derived.Test.YtkipnhhdlohnfaaChecked
import GoSem.Claim
import GoSem.ClaimJoined
import GoSem.ClaimMapViews
import Derived.JoinedTies
import Derived.KernelRfl
namespace Go.Proofs.Ytkipnhhdlohnfaa
/- THE CELL 'sum', in the pinned program and in every row, IS THE sha256 OF THE DUMP (.gsa) THAT YtkipnhhdlohnfaaProg.lean LOADS. Nothing in Lean hashes anything: it is a label: what it is worth is what the hold of that sum in a sandbox is worth. -/
noncomputable def Try.pinned : Pinned := { name := "ytkipnhhdlohnfaa", sum := "ae0dc8514956fc3ad668523fb2473af42a4909e59f94733eb6f8279ec3da34f0", checked := Try.checked }
namespace Rows
def none {H : Type} : Left H := { results := [], args := [] }

/-- 'scriptoriumlaw04.DigestSums': WHATEVER THE INPUT: true; the input reads as it did. -/
def digestSumsSpec : ChangeSpec := { name := "digestSums", fn := fun _ => fun
  | [d] => { results := [.lit (.bool true)], args := [d] }
  | _ => none }
def digestSumsRow : OpenClaim := { program := "ytkipnhhdlohnfaa", sum := "ae0dc8514956fc3ad668523fb2473af42a4909e59f94733eb6f8279ec3da34f0", func := "scriptorium/scriptoriumlaw04.DigestSums", spec := "digestSums", inPlace := ["internal/abi.NoEscape"], unfollowed := true, recurses := true, apart := false }
def DigestSumsSaid : Prop := digestSumsRow.holds Try.pinned (OpenSpec.ofChange digestSumsSpec)

/-- ITS FALSE NEIGHBOUR: 'it returns false'. Refute it at one input. -/
def digestSumsWrong : ChangeSpec := { name := "digestSums", fn := fun _ => fun
  | [d] => { results := [.lit (.bool false)], args := [d] }
  | _ => none }
def DigestSumsWrongFalsely : Prop := digestSumsRow.holds Try.pinned (OpenSpec.ofChange digestSumsWrong)

/-- 'scriptoriumlaw04.DigestJoins': WHATEVER THE INPUT: true; the input reads as it did. -/
def digestJoinsSpec : ChangeSpec := { name := "digestJoins", fn := fun _ => fun
  | [d1, d2, d3] => { results := [.lit (.bool true)], args := [d1, d2, d3] }
  | _ => none }
def digestJoinsRow : OpenClaim := { program := "ytkipnhhdlohnfaa", sum := "ae0dc8514956fc3ad668523fb2473af42a4909e59f94733eb6f8279ec3da34f0", func := "scriptorium/scriptoriumlaw04.DigestJoins", spec := "digestJoins", inPlace := ["internal/abi.NoEscape"], unfollowed := true, recurses := true, apart := false }
def DigestJoinsSaid : Prop := digestJoinsRow.holds Try.pinned (OpenSpec.ofChange digestJoinsSpec)

/-- ITS FALSE NEIGHBOUR: 'it returns false'. Refute it at one input. -/
def digestJoinsWrong : ChangeSpec := { name := "digestJoins", fn := fun _ => fun
  | [d1, d2, d3] => { results := [.lit (.bool false)], args := [d1, d2, d3] }
  | _ => none }
def DigestJoinsWrongFalsely : Prop := digestJoinsRow.holds Try.pinned (OpenSpec.ofChange digestJoinsWrong)

/-- 'scriptoriumlaw05.MerkleRoots': WHATEVER THE INPUT: true; the input reads as it did. -/
def merkleRootsSpec : ChangeSpec := { name := "merkleRoots", fn := fun _ => fun
  | [d1, d2] => { results := [.lit (.bool true)], args := [d1, d2] }
  | _ => none }
def merkleRootsRow : OpenClaim := { program := "ytkipnhhdlohnfaa", sum := "ae0dc8514956fc3ad668523fb2473af42a4909e59f94733eb6f8279ec3da34f0", func := "scriptorium/scriptoriumlaw05.MerkleRoots", spec := "merkleRoots", unfollowed := true, recurses := true, apart := false }
def MerkleRootsSaid : Prop := merkleRootsRow.holds Try.pinned (OpenSpec.ofChange merkleRootsSpec)

/-- ITS FALSE NEIGHBOUR: 'it returns false'. Refute it at one input. -/
def merkleRootsWrong : ChangeSpec := { name := "merkleRoots", fn := fun _ => fun
  | [d1, d2] => { results := [.lit (.bool false)], args := [d1, d2] }
  | _ => none }
def MerkleRootsWrongFalsely : Prop := merkleRootsRow.holds Try.pinned (OpenSpec.ofChange merkleRootsWrong)

/-- 'scriptoriumlaw05.MerkleProofs': WHATEVER THE INPUT: true; the input reads as it did. -/
def merkleProofsSpec : ChangeSpec := { name := "merkleProofs", fn := fun _ => fun
  | [d1, d2] => { results := [.lit (.bool true)], args := [d1, d2] }
  | _ => none }
def merkleProofsRow : OpenClaim := { program := "ytkipnhhdlohnfaa", sum := "ae0dc8514956fc3ad668523fb2473af42a4909e59f94733eb6f8279ec3da34f0", func := "scriptorium/scriptoriumlaw05.MerkleProofs", spec := "merkleProofs", unfollowed := true, recurses := true, apart := false }
def MerkleProofsSaid : Prop := merkleProofsRow.holds Try.pinned (OpenSpec.ofChange merkleProofsSpec)

/-- ITS FALSE NEIGHBOUR: 'it returns false'. Refute it at one input. -/
def merkleProofsWrong : ChangeSpec := { name := "merkleProofs", fn := fun _ => fun
  | [d1, d2] => { results := [.lit (.bool false)], args := [d1, d2] }
  | _ => none }
def MerkleProofsWrongFalsely : Prop := merkleProofsRow.holds Try.pinned (OpenSpec.ofChange merkleProofsWrong)

/-- 'scriptoriumlaw04.DigestTexts': WHATEVER THE INPUT: true; the input reads as it did. -/
def digestTextsSpec : ChangeSpec := { name := "digestTexts", fn := fun _ => fun
  | [d1, d2] => { results := [.lit (.bool true)], args := [d1, d2] }
  | _ => none }
def digestTextsRow : OpenClaim := { program := "ytkipnhhdlohnfaa", sum := "ae0dc8514956fc3ad668523fb2473af42a4909e59f94733eb6f8279ec3da34f0", func := "scriptorium/scriptoriumlaw04.DigestTexts", spec := "digestTexts", inPlace := ["internal/abi.NoEscape", "internal/bytealg.IndexByteString"], unfollowed := true, recurses := true, apart := false }
def DigestTextsSaid : Prop := digestTextsRow.holds Try.pinned (OpenSpec.ofChange digestTextsSpec)

/-- ITS FALSE NEIGHBOUR: 'it returns false'. Refute it at one input. -/
def digestTextsWrong : ChangeSpec := { name := "digestTexts", fn := fun _ => fun
  | [d1, d2] => { results := [.lit (.bool false)], args := [d1, d2] }
  | _ => none }
def DigestTextsWrongFalsely : Prop := digestTextsRow.holds Try.pinned (OpenSpec.ofChange digestTextsWrong)

/-- 'scriptoriumlaw04.DigestBack': WHATEVER THE INPUT: true; the input reads as it did. -/
def digestBackSpec : ChangeSpec := { name := "digestBack", fn := fun _ => fun
  | [d] => { results := [.lit (.bool true)], args := [d] }
  | _ => none }
def digestBackRow : OpenClaim := { program := "ytkipnhhdlohnfaa", sum := "ae0dc8514956fc3ad668523fb2473af42a4909e59f94733eb6f8279ec3da34f0", func := "scriptorium/scriptoriumlaw04.DigestBack", spec := "digestBack", inPlace := ["internal/abi.NoEscape", "internal/bytealg.IndexByteString"], unfollowed := true, recurses := true, apart := false }
def DigestBackSaid : Prop := digestBackRow.holds Try.pinned (OpenSpec.ofChange digestBackSpec)

/-- ITS FALSE NEIGHBOUR: 'it returns false'. Refute it at one input. -/
def digestBackWrong : ChangeSpec := { name := "digestBack", fn := fun _ => fun
  | [d] => { results := [.lit (.bool false)], args := [d] }
  | _ => none }
def DigestBackWrongFalsely : Prop := digestBackRow.holds Try.pinned (OpenSpec.ofChange digestBackWrong)

/-- 'scriptoriumlaw05.MerkleGrowths': WHATEVER THE INPUT: true; the input reads as it did. -/
def merkleGrowthsSpec : ChangeSpec := { name := "merkleGrowths", fn := fun _ => fun
  | [d1, d2] => { results := [.lit (.bool true)], args := [d1, d2] }
  | _ => none }
def merkleGrowthsRow : OpenClaim := { program := "ytkipnhhdlohnfaa", sum := "ae0dc8514956fc3ad668523fb2473af42a4909e59f94733eb6f8279ec3da34f0", func := "scriptorium/scriptoriumlaw05.MerkleGrowths", spec := "merkleGrowths", unfollowed := true, recurses := true, apart := false }
def MerkleGrowthsSaid : Prop := merkleGrowthsRow.holds Try.pinned (OpenSpec.ofChange merkleGrowthsSpec)

/-- ITS FALSE NEIGHBOUR: 'it returns false'. Refute it at one input. -/
def merkleGrowthsWrong : ChangeSpec := { name := "merkleGrowths", fn := fun _ => fun
  | [d1, d2] => { results := [.lit (.bool false)], args := [d1, d2] }
  | _ => none }
def MerkleGrowthsWrongFalsely : Prop := merkleGrowthsRow.holds Try.pinned (OpenSpec.ofChange merkleGrowthsWrong)

/-- 'scriptoriumlaw05.MerkleVerifies': WHATEVER THE INPUT: true; the input reads as it did. -/
def merkleVerifiesSpec : ChangeSpec := { name := "merkleVerifies", fn := fun _ => fun
  | [d1, d2, d3, d4, d5] => { results := [.lit (.bool true)], args := [d1, d2, d3, d4, d5] }
  | _ => none }
def merkleVerifiesRow : OpenClaim := { program := "ytkipnhhdlohnfaa", sum := "ae0dc8514956fc3ad668523fb2473af42a4909e59f94733eb6f8279ec3da34f0", func := "scriptorium/scriptoriumlaw05.MerkleVerifies", spec := "merkleVerifies", unfollowed := true, recurses := true, apart := false }
def MerkleVerifiesSaid : Prop := merkleVerifiesRow.holds Try.pinned (OpenSpec.ofChange merkleVerifiesSpec)

/-- ITS FALSE NEIGHBOUR: 'it returns false'. Refute it at one input. -/
def merkleVerifiesWrong : ChangeSpec := { name := "merkleVerifies", fn := fun _ => fun
  | [d1, d2, d3, d4, d5] => { results := [.lit (.bool false)], args := [d1, d2, d3, d4, d5] }
  | _ => none }
def MerkleVerifiesWrongFalsely : Prop := merkleVerifiesRow.holds Try.pinned (OpenSpec.ofChange merkleVerifiesWrong)

/-- 'scriptoriumlaw05.MerkleBound': WHATEVER THE INPUT: true; the input reads as it did. -/
def merkleBoundSpec : ChangeSpec := { name := "merkleBound", fn := fun _ => fun
  | [d1, d2, d3, d4, d5, d6, d7] => { results := [.lit (.bool true)], args := [d1, d2, d3, d4, d5, d6, d7] }
  | _ => none }
def merkleBoundRow : OpenClaim := { program := "ytkipnhhdlohnfaa", sum := "ae0dc8514956fc3ad668523fb2473af42a4909e59f94733eb6f8279ec3da34f0", func := "scriptorium/scriptoriumlaw05.MerkleBound", spec := "merkleBound", unfollowed := true, recurses := true, apart := false }
def MerkleBoundSaid : Prop := merkleBoundRow.holds Try.pinned (OpenSpec.ofChange merkleBoundSpec)

/-- ITS FALSE NEIGHBOUR: 'it returns false'. Refute it at one input. -/
def merkleBoundWrong : ChangeSpec := { name := "merkleBound", fn := fun _ => fun
  | [d1, d2, d3, d4, d5, d6, d7] => { results := [.lit (.bool false)], args := [d1, d2, d3, d4, d5, d6, d7] }
  | _ => none }
def MerkleBoundWrongFalsely : Prop := merkleBoundRow.holds Try.pinned (OpenSpec.ofChange merkleBoundWrong)

/-- 'scriptoriumlaw05.MerkleGrown': WHATEVER THE INPUT: true; the input reads as it did. -/
def merkleGrownSpec : ChangeSpec := { name := "merkleGrown", fn := fun _ => fun
  | [d1, d2, d3, d4, d5] => { results := [.lit (.bool true)], args := [d1, d2, d3, d4, d5] }
  | _ => none }
def merkleGrownRow : OpenClaim := { program := "ytkipnhhdlohnfaa", sum := "ae0dc8514956fc3ad668523fb2473af42a4909e59f94733eb6f8279ec3da34f0", func := "scriptorium/scriptoriumlaw05.MerkleGrown", spec := "merkleGrown", unfollowed := true, recurses := true, apart := false }
def MerkleGrownSaid : Prop := merkleGrownRow.holds Try.pinned (OpenSpec.ofChange merkleGrownSpec)

/-- ITS FALSE NEIGHBOUR: 'it returns false'. Refute it at one input. -/
def merkleGrownWrong : ChangeSpec := { name := "merkleGrown", fn := fun _ => fun
  | [d1, d2, d3, d4, d5] => { results := [.lit (.bool false)], args := [d1, d2, d3, d4, d5] }
  | _ => none }
def MerkleGrownWrongFalsely : Prop := merkleGrownRow.holds Try.pinned (OpenSpec.ofChange merkleGrownWrong)

/-- 'scriptoriumlaw05.MerkleRight': WHATEVER THE INPUT: true; the input reads as it did. -/
def merkleRightSpec : ChangeSpec := { name := "merkleRight", fn := fun _ => fun
  | [d1, d2, d3] => { results := [.lit (.bool true)], args := [d1, d2, d3] }
  | _ => none }
def merkleRightRow : OpenClaim := { program := "ytkipnhhdlohnfaa", sum := "ae0dc8514956fc3ad668523fb2473af42a4909e59f94733eb6f8279ec3da34f0", func := "scriptorium/scriptoriumlaw05.MerkleRight", spec := "merkleRight", unfollowed := true, recurses := true, apart := false }
def MerkleRightSaid : Prop := merkleRightRow.holds Try.pinned (OpenSpec.ofChange merkleRightSpec)

/-- ITS FALSE NEIGHBOUR: 'it returns false'. Refute it at one input. -/
def merkleRightWrong : ChangeSpec := { name := "merkleRight", fn := fun _ => fun
  | [d1, d2, d3] => { results := [.lit (.bool false)], args := [d1, d2, d3] }
  | _ => none }
def MerkleRightWrongFalsely : Prop := merkleRightRow.holds Try.pinned (OpenSpec.ofChange merkleRightWrong)

/- THE SECOND FORM. 'bulk': how many values and letters a reading holds, each counted each time it is reached (what is shared counts as often as it is met; a slice's spare places count too). A statement '..UptoSaid' is the law's where the arguments, and the package variables that the reading takes, are together of bulk at most 1048576: NARROWER than '..Said'. Prove '..Said' where nothing that the law and all that it calls make is longer than what came in: it says more and counts as full. Else prove '..UptoSaid'. A law counts once. -/
mutual
def uptoBulk {H : Type} : DataW H → Nat
  | .lit (.string bytes) => bytes.length + 1
  | .lit _ => 1
  | .nil => 1
  | .ptr d => uptoBulk d + 1
  | .slice elems spare => uptoBulkAll elems + uptoBulkAll spare + 1
  | .agg parts => uptoBulkAll parts + 1
  | .iface _ d => uptoBulk d + 1
  | .map entries => uptoBulkEntries entries + 1
  | .held _ => 1
def uptoBulkAll {H : Type} : List (DataW H) → Nat
  | [] => 0
  | d :: r => uptoBulk d + uptoBulkAll r
def uptoBulkEntries {H : Type} : List (Lit × DataW H) → Nat
  | [] => 0
  | x :: r => uptoBulkEntry x + uptoBulkEntries r
def uptoBulkEntry {H : Type} : Lit × DataW H → Nat
  | (.string bytes, d) => bytes.length + uptoBulk d + 1
  | (_, d) => uptoBulk d + 1
 end
def uptoSmall : (H : Type) → List (DataW H) → Bool := fun _ ds => decide (uptoBulkAll ds ≤ 1048576)
def OpenSpec.upto (s : _root_.Go.ChangeSpec) : _root_.Go.OpenSpec := { _root_.Go.OpenSpec.ofChange s with cond := some uptoSmall }

/-- 'scriptoriumlaw04.DigestSums', WHERE WHAT IT READS IS OF BULK AT MOST 1048576: true; the input reads as it did. -/
def digestSumsUptoRow : OpenClaim := { program := "ytkipnhhdlohnfaa", sum := "ae0dc8514956fc3ad668523fb2473af42a4909e59f94733eb6f8279ec3da34f0", func := "scriptorium/scriptoriumlaw04.DigestSums", spec := "digestSums", inPlace := ["internal/abi.NoEscape"], unfollowed := true, recurses := true, apart := false, narrowed := true }
def DigestSumsUptoSaid : Prop := digestSumsUptoRow.holds Try.pinned (OpenSpec.upto digestSumsSpec)

/-- 'scriptoriumlaw04.DigestJoins', WHERE WHAT IT READS IS OF BULK AT MOST 1048576: true; the input reads as it did. -/
def digestJoinsUptoRow : OpenClaim := { program := "ytkipnhhdlohnfaa", sum := "ae0dc8514956fc3ad668523fb2473af42a4909e59f94733eb6f8279ec3da34f0", func := "scriptorium/scriptoriumlaw04.DigestJoins", spec := "digestJoins", inPlace := ["internal/abi.NoEscape"], unfollowed := true, recurses := true, apart := false, narrowed := true }
def DigestJoinsUptoSaid : Prop := digestJoinsUptoRow.holds Try.pinned (OpenSpec.upto digestJoinsSpec)

/-- 'scriptoriumlaw05.MerkleRoots', WHERE WHAT IT READS IS OF BULK AT MOST 1048576: true; the input reads as it did. -/
def merkleRootsUptoRow : OpenClaim := { program := "ytkipnhhdlohnfaa", sum := "ae0dc8514956fc3ad668523fb2473af42a4909e59f94733eb6f8279ec3da34f0", func := "scriptorium/scriptoriumlaw05.MerkleRoots", spec := "merkleRoots", unfollowed := true, recurses := true, apart := false, narrowed := true }
def MerkleRootsUptoSaid : Prop := merkleRootsUptoRow.holds Try.pinned (OpenSpec.upto merkleRootsSpec)

/-- 'scriptoriumlaw05.MerkleProofs', WHERE WHAT IT READS IS OF BULK AT MOST 1048576: true; the input reads as it did. -/
def merkleProofsUptoRow : OpenClaim := { program := "ytkipnhhdlohnfaa", sum := "ae0dc8514956fc3ad668523fb2473af42a4909e59f94733eb6f8279ec3da34f0", func := "scriptorium/scriptoriumlaw05.MerkleProofs", spec := "merkleProofs", unfollowed := true, recurses := true, apart := false, narrowed := true }
def MerkleProofsUptoSaid : Prop := merkleProofsUptoRow.holds Try.pinned (OpenSpec.upto merkleProofsSpec)

/-- 'scriptoriumlaw04.DigestTexts', WHERE WHAT IT READS IS OF BULK AT MOST 1048576: true; the input reads as it did. -/
def digestTextsUptoRow : OpenClaim := { program := "ytkipnhhdlohnfaa", sum := "ae0dc8514956fc3ad668523fb2473af42a4909e59f94733eb6f8279ec3da34f0", func := "scriptorium/scriptoriumlaw04.DigestTexts", spec := "digestTexts", inPlace := ["internal/abi.NoEscape", "internal/bytealg.IndexByteString"], unfollowed := true, recurses := true, apart := false, narrowed := true }
def DigestTextsUptoSaid : Prop := digestTextsUptoRow.holds Try.pinned (OpenSpec.upto digestTextsSpec)

/-- 'scriptoriumlaw04.DigestBack', WHERE WHAT IT READS IS OF BULK AT MOST 1048576: true; the input reads as it did. -/
def digestBackUptoRow : OpenClaim := { program := "ytkipnhhdlohnfaa", sum := "ae0dc8514956fc3ad668523fb2473af42a4909e59f94733eb6f8279ec3da34f0", func := "scriptorium/scriptoriumlaw04.DigestBack", spec := "digestBack", inPlace := ["internal/abi.NoEscape", "internal/bytealg.IndexByteString"], unfollowed := true, recurses := true, apart := false, narrowed := true }
def DigestBackUptoSaid : Prop := digestBackUptoRow.holds Try.pinned (OpenSpec.upto digestBackSpec)

/-- 'scriptoriumlaw05.MerkleGrowths', WHERE WHAT IT READS IS OF BULK AT MOST 1048576: true; the input reads as it did. -/
def merkleGrowthsUptoRow : OpenClaim := { program := "ytkipnhhdlohnfaa", sum := "ae0dc8514956fc3ad668523fb2473af42a4909e59f94733eb6f8279ec3da34f0", func := "scriptorium/scriptoriumlaw05.MerkleGrowths", spec := "merkleGrowths", unfollowed := true, recurses := true, apart := false, narrowed := true }
def MerkleGrowthsUptoSaid : Prop := merkleGrowthsUptoRow.holds Try.pinned (OpenSpec.upto merkleGrowthsSpec)

/-- 'scriptoriumlaw05.MerkleVerifies', WHERE WHAT IT READS IS OF BULK AT MOST 1048576: true; the input reads as it did. -/
def merkleVerifiesUptoRow : OpenClaim := { program := "ytkipnhhdlohnfaa", sum := "ae0dc8514956fc3ad668523fb2473af42a4909e59f94733eb6f8279ec3da34f0", func := "scriptorium/scriptoriumlaw05.MerkleVerifies", spec := "merkleVerifies", unfollowed := true, recurses := true, apart := false, narrowed := true }
def MerkleVerifiesUptoSaid : Prop := merkleVerifiesUptoRow.holds Try.pinned (OpenSpec.upto merkleVerifiesSpec)

/-- 'scriptoriumlaw05.MerkleBound', WHERE WHAT IT READS IS OF BULK AT MOST 1048576: true; the input reads as it did. -/
def merkleBoundUptoRow : OpenClaim := { program := "ytkipnhhdlohnfaa", sum := "ae0dc8514956fc3ad668523fb2473af42a4909e59f94733eb6f8279ec3da34f0", func := "scriptorium/scriptoriumlaw05.MerkleBound", spec := "merkleBound", unfollowed := true, recurses := true, apart := false, narrowed := true }
def MerkleBoundUptoSaid : Prop := merkleBoundUptoRow.holds Try.pinned (OpenSpec.upto merkleBoundSpec)

/-- 'scriptoriumlaw05.MerkleGrown', WHERE WHAT IT READS IS OF BULK AT MOST 1048576: true; the input reads as it did. -/
def merkleGrownUptoRow : OpenClaim := { program := "ytkipnhhdlohnfaa", sum := "ae0dc8514956fc3ad668523fb2473af42a4909e59f94733eb6f8279ec3da34f0", func := "scriptorium/scriptoriumlaw05.MerkleGrown", spec := "merkleGrown", unfollowed := true, recurses := true, apart := false, narrowed := true }
def MerkleGrownUptoSaid : Prop := merkleGrownUptoRow.holds Try.pinned (OpenSpec.upto merkleGrownSpec)

/-- 'scriptoriumlaw05.MerkleRight', WHERE WHAT IT READS IS OF BULK AT MOST 1048576: true; the input reads as it did. -/
def merkleRightUptoRow : OpenClaim := { program := "ytkipnhhdlohnfaa", sum := "ae0dc8514956fc3ad668523fb2473af42a4909e59f94733eb6f8279ec3da34f0", func := "scriptorium/scriptoriumlaw05.MerkleRight", spec := "merkleRight", unfollowed := true, recurses := true, apart := false, narrowed := true }
def MerkleRightUptoSaid : Prop := merkleRightUptoRow.holds Try.pinned (OpenSpec.upto merkleRightSpec)

end Rows
end Go.Proofs.Ytkipnhhdlohnfaa

/-
  No cell of these rows narrows 'for every input' (looked for: loops, veiled, ifaces, maps, wideKeys, modest, calm, conditions, laid).
  DERIVED. THE GIVEN ROWS OF THIS SEAT. 12 by the template 'for every input the law returns true; each argument reads behind the call as it read before'; 0 by the template 'total and deterministic' (their statements: YtlgmocmekmppeaaTotals.lean).
  GIVEN WITH THE SEED: the statements are not yours to turn. If you find one false, say at which input.
  Laid BY PROGRAM, IN A SANDBOX (cutbox-rows.mjs): the forced cells as the released guide's own fill.sh prints them over the translation ec89656d463f2069… (all of the seat's roots in one cut). By AI agents, Wed Nov 11 2026. No macro, syntax, notation, axiom, sorry.
-/
import Derived.Test.YtlgmocmekmppeaaChecked
import GoSem.Claim
import GoSem.ClaimJoined
import GoSem.ClaimMapViews
import Derived.JoinedTies
import Derived.KernelRfl
namespace Go.Proofs.Ytlgmocmekmppeaa
/- THE CELL 'sum', in the pinned program and in every row, IS THE sha256 OF THE DUMP (.gsa) THAT YtlgmocmekmppeaaProg.lean LOADS. Nothing in Lean hashes anything: it is a label: what it is worth is what the hold of that sum in a sandbox is worth. -/
noncomputable def Try.pinned : Pinned := { name := "ytlgmocmekmppeaa", sum := "ec89656d463f2069d6425813fd31a4443d8d2beabbe7edc8c27b39b9b9dee073", checked := Try.checked }
namespace Rows
def none {H : Type} : Left H := { results := [], args := [] }

/-- 'scriptoriumlaw02.FrameCrcs': WHATEVER THE INPUT: true; the input reads as it did. -/
def frameCrcsSpec : ChangeSpec := { name := "frameCrcs", fn := fun _ => fun
  | [d] => { results := [.lit (.bool true)], args := [d] }
  | _ => none }
def frameCrcsRow : OpenClaim := { program := "ytlgmocmekmppeaa", sum := "ec89656d463f2069d6425813fd31a4443d8d2beabbe7edc8c27b39b9b9dee073", func := "scriptorium/scriptoriumlaw02.FrameCrcs", spec := "frameCrcs", apart := false }
def FrameCrcsSaid : Prop := frameCrcsRow.holds Try.pinned (OpenSpec.ofChange frameCrcsSpec)

/-- ITS FALSE NEIGHBOUR: 'it returns false'. Refute it at one input. -/
def frameCrcsWrong : ChangeSpec := { name := "frameCrcs", fn := fun _ => fun
  | [d] => { results := [.lit (.bool false)], args := [d] }
  | _ => none }
def FrameCrcsWrongFalsely : Prop := frameCrcsRow.holds Try.pinned (OpenSpec.ofChange frameCrcsWrong)

/-- 'scriptoriumlaw02.FramePuts': WHATEVER THE INPUT: true; the input reads as it did. -/
def framePutsSpec : ChangeSpec := { name := "framePuts", fn := fun _ => fun
  | [d] => { results := [.lit (.bool true)], args := [d] }
  | _ => none }
def framePutsRow : OpenClaim := { program := "ytlgmocmekmppeaa", sum := "ec89656d463f2069d6425813fd31a4443d8d2beabbe7edc8c27b39b9b9dee073", func := "scriptorium/scriptoriumlaw02.FramePuts", spec := "framePuts", apart := false }
def FramePutsSaid : Prop := framePutsRow.holds Try.pinned (OpenSpec.ofChange framePutsSpec)

/-- ITS FALSE NEIGHBOUR: 'it returns false'. Refute it at one input. -/
def framePutsWrong : ChangeSpec := { name := "framePuts", fn := fun _ => fun
  | [d] => { results := [.lit (.bool false)], args := [d] }
  | _ => none }
def FramePutsWrongFalsely : Prop := framePutsRow.holds Try.pinned (OpenSpec.ofChange framePutsWrong)

/-- 'scriptoriumlaw02.FrameNext': WHATEVER THE INPUT: true; the input reads as it did. -/
def frameNextSpec : ChangeSpec := { name := "frameNext", fn := fun _ => fun
  | [d] => { results := [.lit (.bool true)], args := [d] }
  | _ => none }
def frameNextRow : OpenClaim := { program := "ytlgmocmekmppeaa", sum := "ec89656d463f2069d6425813fd31a4443d8d2beabbe7edc8c27b39b9b9dee073", func := "scriptorium/scriptoriumlaw02.FrameNext", spec := "frameNext", unfollowed := true, recurses := true, apart := false }
def FrameNextSaid : Prop := frameNextRow.holds Try.pinned (OpenSpec.ofChange frameNextSpec)

/-- ITS FALSE NEIGHBOUR: 'it returns false'. Refute it at one input. -/
def frameNextWrong : ChangeSpec := { name := "frameNext", fn := fun _ => fun
  | [d] => { results := [.lit (.bool false)], args := [d] }
  | _ => none }
def FrameNextWrongFalsely : Prop := frameNextRow.holds Try.pinned (OpenSpec.ofChange frameNextWrong)

/-- 'scriptoriumlaw02.FrameAll': WHATEVER THE INPUT: true; the input reads as it did. -/
def frameAllSpec : ChangeSpec := { name := "frameAll", fn := fun _ => fun
  | [d] => { results := [.lit (.bool true)], args := [d] }
  | _ => none }
def frameAllRow : OpenClaim := { program := "ytlgmocmekmppeaa", sum := "ec89656d463f2069d6425813fd31a4443d8d2beabbe7edc8c27b39b9b9dee073", func := "scriptorium/scriptoriumlaw02.FrameAll", spec := "frameAll", unfollowed := true, recurses := true, apart := false }
def FrameAllSaid : Prop := frameAllRow.holds Try.pinned (OpenSpec.ofChange frameAllSpec)

/-- ITS FALSE NEIGHBOUR: 'it returns false'. Refute it at one input. -/
def frameAllWrong : ChangeSpec := { name := "frameAll", fn := fun _ => fun
  | [d] => { results := [.lit (.bool false)], args := [d] }
  | _ => none }
def FrameAllWrongFalsely : Prop := frameAllRow.holds Try.pinned (OpenSpec.ofChange frameAllWrong)

/-- 'scriptoriumlaw02.FrameBack': WHATEVER THE INPUT: true; the input reads as it did. -/
def frameBackSpec : ChangeSpec := { name := "frameBack", fn := fun _ => fun
  | [d1, d2] => { results := [.lit (.bool true)], args := [d1, d2] }
  | _ => none }
def frameBackRow : OpenClaim := { program := "ytlgmocmekmppeaa", sum := "ec89656d463f2069d6425813fd31a4443d8d2beabbe7edc8c27b39b9b9dee073", func := "scriptorium/scriptoriumlaw02.FrameBack", spec := "frameBack", unfollowed := true, recurses := true, apart := false }
def FrameBackSaid : Prop := frameBackRow.holds Try.pinned (OpenSpec.ofChange frameBackSpec)

/-- ITS FALSE NEIGHBOUR: 'it returns false'. Refute it at one input. -/
def frameBackWrong : ChangeSpec := { name := "frameBack", fn := fun _ => fun
  | [d1, d2] => { results := [.lit (.bool false)], args := [d1, d2] }
  | _ => none }
def FrameBackWrongFalsely : Prop := frameBackRow.holds Try.pinned (OpenSpec.ofChange frameBackWrong)

/-- 'scriptoriumlaw02.FrameTorn': WHATEVER THE INPUT: true; the input reads as it did. -/
def frameTornSpec : ChangeSpec := { name := "frameTorn", fn := fun _ => fun
  | [d1, d2] => { results := [.lit (.bool true)], args := [d1, d2] }
  | _ => none }
def frameTornRow : OpenClaim := { program := "ytlgmocmekmppeaa", sum := "ec89656d463f2069d6425813fd31a4443d8d2beabbe7edc8c27b39b9b9dee073", func := "scriptorium/scriptoriumlaw02.FrameTorn", spec := "frameTorn", unfollowed := true, recurses := true, apart := false }
def FrameTornSaid : Prop := frameTornRow.holds Try.pinned (OpenSpec.ofChange frameTornSpec)

/-- ITS FALSE NEIGHBOUR: 'it returns false'. Refute it at one input. -/
def frameTornWrong : ChangeSpec := { name := "frameTorn", fn := fun _ => fun
  | [d1, d2] => { results := [.lit (.bool false)], args := [d1, d2] }
  | _ => none }
def FrameTornWrongFalsely : Prop := frameTornRow.holds Try.pinned (OpenSpec.ofChange frameTornWrong)

/-- 'scriptoriumlaw02.FrameJoined': WHATEVER THE INPUT: true; the input reads as it did. -/
def frameJoinedSpec : ChangeSpec := { name := "frameJoined", fn := fun _ => fun
  | [d1, d2] => { results := [.lit (.bool true)], args := [d1, d2] }
  | _ => none }
def frameJoinedRow : OpenClaim := { program := "ytlgmocmekmppeaa", sum := "ec89656d463f2069d6425813fd31a4443d8d2beabbe7edc8c27b39b9b9dee073", func := "scriptorium/scriptoriumlaw02.FrameJoined", spec := "frameJoined", unfollowed := true, recurses := true, apart := false }
def FrameJoinedSaid : Prop := frameJoinedRow.holds Try.pinned (OpenSpec.ofChange frameJoinedSpec)

/-- ITS FALSE NEIGHBOUR: 'it returns false'. Refute it at one input. -/
def frameJoinedWrong : ChangeSpec := { name := "frameJoined", fn := fun _ => fun
  | [d1, d2] => { results := [.lit (.bool false)], args := [d1, d2] }
  | _ => none }
def FrameJoinedWrongFalsely : Prop := frameJoinedRow.holds Try.pinned (OpenSpec.ofChange frameJoinedWrong)

/-- 'scriptoriumlaw21.DueActs': WHATEVER THE INPUT: true; the input reads as it did. -/
def dueActsSpec : ChangeSpec := { name := "dueActs", fn := fun _ => fun
  | [d] => { results := [.lit (.bool true)], args := [d] }
  | _ => none }
def dueActsRow : OpenClaim := { program := "ytlgmocmekmppeaa", sum := "ec89656d463f2069d6425813fd31a4443d8d2beabbe7edc8c27b39b9b9dee073", func := "scriptorium/scriptoriumlaw21.DueActs", spec := "dueActs", unfollowed := true, recurses := true, apart := false }
def DueActsSaid : Prop := dueActsRow.holds Try.pinned (OpenSpec.ofChange dueActsSpec)

/-- ITS FALSE NEIGHBOUR: 'it returns false'. Refute it at one input. -/
def dueActsWrong : ChangeSpec := { name := "dueActs", fn := fun _ => fun
  | [d] => { results := [.lit (.bool false)], args := [d] }
  | _ => none }
def DueActsWrongFalsely : Prop := dueActsRow.holds Try.pinned (OpenSpec.ofChange dueActsWrong)

/-- 'scriptoriumlaw21.DueOrders': WHATEVER THE INPUT: true; the input reads as it did. -/
def dueOrdersSpec : ChangeSpec := { name := "dueOrders", fn := fun _ => fun
  | [d] => { results := [.lit (.bool true)], args := [d] }
  | _ => none }
def dueOrdersRow : OpenClaim := { program := "ytlgmocmekmppeaa", sum := "ec89656d463f2069d6425813fd31a4443d8d2beabbe7edc8c27b39b9b9dee073", func := "scriptorium/scriptoriumlaw21.DueOrders", spec := "dueOrders", unfollowed := true, recurses := true, apart := false }
def DueOrdersSaid : Prop := dueOrdersRow.holds Try.pinned (OpenSpec.ofChange dueOrdersSpec)

/-- ITS FALSE NEIGHBOUR: 'it returns false'. Refute it at one input. -/
def dueOrdersWrong : ChangeSpec := { name := "dueOrders", fn := fun _ => fun
  | [d] => { results := [.lit (.bool false)], args := [d] }
  | _ => none }
def DueOrdersWrongFalsely : Prop := dueOrdersRow.holds Try.pinned (OpenSpec.ofChange dueOrdersWrong)

/-- 'scriptoriumlaw21.DueNone': WHATEVER THE INPUT: true; the input reads as it did. -/
def dueNoneSpec : ChangeSpec := { name := "dueNone", fn := fun _ => fun
  | [d1, d2, d3] => { results := [.lit (.bool true)], args := [d1, d2, d3] }
  | _ => none }
def dueNoneRow : OpenClaim := { program := "ytlgmocmekmppeaa", sum := "ec89656d463f2069d6425813fd31a4443d8d2beabbe7edc8c27b39b9b9dee073", func := "scriptorium/scriptoriumlaw21.DueNone", spec := "dueNone", unfollowed := true, recurses := true, apart := false }
def DueNoneSaid : Prop := dueNoneRow.holds Try.pinned (OpenSpec.ofChange dueNoneSpec)

/-- ITS FALSE NEIGHBOUR: 'it returns false'. Refute it at one input. -/
def dueNoneWrong : ChangeSpec := { name := "dueNone", fn := fun _ => fun
  | [d1, d2, d3] => { results := [.lit (.bool false)], args := [d1, d2, d3] }
  | _ => none }
def DueNoneWrongFalsely : Prop := dueNoneRow.holds Try.pinned (OpenSpec.ofChange dueNoneWrong)

/-- 'scriptoriumlaw21.DueDelays': WHATEVER THE INPUT: true; the input reads as it did. -/
def dueDelaysSpec : ChangeSpec := { name := "dueDelays", fn := fun _ => fun
  | [d1, d2, d3] => { results := [.lit (.bool true)], args := [d1, d2, d3] }
  | _ => none }
def dueDelaysRow : OpenClaim := { program := "ytlgmocmekmppeaa", sum := "ec89656d463f2069d6425813fd31a4443d8d2beabbe7edc8c27b39b9b9dee073", func := "scriptorium/scriptoriumlaw21.DueDelays", spec := "dueDelays", unfollowed := true, recurses := true, apart := false }
def DueDelaysSaid : Prop := dueDelaysRow.holds Try.pinned (OpenSpec.ofChange dueDelaysSpec)

/-- ITS FALSE NEIGHBOUR: 'it returns false'. Refute it at one input. -/
def dueDelaysWrong : ChangeSpec := { name := "dueDelays", fn := fun _ => fun
  | [d1, d2, d3] => { results := [.lit (.bool false)], args := [d1, d2, d3] }
  | _ => none }
def DueDelaysWrongFalsely : Prop := dueDelaysRow.holds Try.pinned (OpenSpec.ofChange dueDelaysWrong)

/-- 'scriptoriumlaw04.DigestSums': WHATEVER THE INPUT: true; the input reads as it did. -/
def digestSumsSpec : ChangeSpec := { name := "digestSums", fn := fun _ => fun
  | [d] => { results := [.lit (.bool true)], args := [d] }
  | _ => none }
def digestSumsRow : OpenClaim := { program := "ytlgmocmekmppeaa", sum := "ec89656d463f2069d6425813fd31a4443d8d2beabbe7edc8c27b39b9b9dee073", func := "scriptorium/scriptoriumlaw04.DigestSums", spec := "digestSums", inPlace := ["internal/abi.NoEscape"], unfollowed := true, recurses := true, apart := false }
def DigestSumsSaid : Prop := digestSumsRow.holds Try.pinned (OpenSpec.ofChange digestSumsSpec)

/-- ITS FALSE NEIGHBOUR: 'it returns false'. Refute it at one input. -/
def digestSumsWrong : ChangeSpec := { name := "digestSums", fn := fun _ => fun
  | [d] => { results := [.lit (.bool false)], args := [d] }
  | _ => none }
def DigestSumsWrongFalsely : Prop := digestSumsRow.holds Try.pinned (OpenSpec.ofChange digestSumsWrong)

/- THE SECOND FORM. 'bulk': how many values and letters a reading holds, each counted each time it is reached (what is shared counts as often as it is met; a slice's spare places count too). A statement '..UptoSaid' is the law's where the arguments, and the package variables that the reading takes, are together of bulk at most 1048576: NARROWER than '..Said'. Prove '..Said' where nothing that the law and all that it calls make is longer than what came in: it says more and counts as full. Else prove '..UptoSaid'. A law counts once. -/
mutual
def uptoBulk {H : Type} : DataW H → Nat
  | .lit (.string bytes) => bytes.length + 1
  | .lit _ => 1
  | .nil => 1
  | .ptr d => uptoBulk d + 1
  | .slice elems spare => uptoBulkAll elems + uptoBulkAll spare + 1
  | .agg parts => uptoBulkAll parts + 1
  | .iface _ d => uptoBulk d + 1
  | .map entries => uptoBulkEntries entries + 1
  | .held _ => 1
def uptoBulkAll {H : Type} : List (DataW H) → Nat
  | [] => 0
  | d :: r => uptoBulk d + uptoBulkAll r
def uptoBulkEntries {H : Type} : List (Lit × DataW H) → Nat
  | [] => 0
  | x :: r => uptoBulkEntry x + uptoBulkEntries r
def uptoBulkEntry {H : Type} : Lit × DataW H → Nat
  | (.string bytes, d) => bytes.length + uptoBulk d + 1
  | (_, d) => uptoBulk d + 1
 end
def uptoSmall : (H : Type) → List (DataW H) → Bool := fun _ ds => decide (uptoBulkAll ds ≤ 1048576)
def OpenSpec.upto (s : _root_.Go.ChangeSpec) : _root_.Go.OpenSpec := { _root_.Go.OpenSpec.ofChange s with cond := some uptoSmall }

/-- 'scriptoriumlaw02.FrameCrcs', WHERE WHAT IT READS IS OF BULK AT MOST 1048576: true; the input reads as it did. -/
def frameCrcsUptoRow : OpenClaim := { program := "ytlgmocmekmppeaa", sum := "ec89656d463f2069d6425813fd31a4443d8d2beabbe7edc8c27b39b9b9dee073", func := "scriptorium/scriptoriumlaw02.FrameCrcs", spec := "frameCrcs", apart := false, narrowed := true }
def FrameCrcsUptoSaid : Prop := frameCrcsUptoRow.holds Try.pinned (OpenSpec.upto frameCrcsSpec)

/-- 'scriptoriumlaw02.FramePuts', WHERE WHAT IT READS IS OF BULK AT MOST 1048576: true; the input reads as it did. -/
def framePutsUptoRow : OpenClaim := { program := "ytlgmocmekmppeaa", sum := "ec89656d463f2069d6425813fd31a4443d8d2beabbe7edc8c27b39b9b9dee073", func := "scriptorium/scriptoriumlaw02.FramePuts", spec := "framePuts", apart := false, narrowed := true }
def FramePutsUptoSaid : Prop := framePutsUptoRow.holds Try.pinned (OpenSpec.upto framePutsSpec)

/-- 'scriptoriumlaw02.FrameNext', WHERE WHAT IT READS IS OF BULK AT MOST 1048576: true; the input reads as it did. -/
def frameNextUptoRow : OpenClaim := { program := "ytlgmocmekmppeaa", sum := "ec89656d463f2069d6425813fd31a4443d8d2beabbe7edc8c27b39b9b9dee073", func := "scriptorium/scriptoriumlaw02.FrameNext", spec := "frameNext", unfollowed := true, recurses := true, apart := false, narrowed := true }
def FrameNextUptoSaid : Prop := frameNextUptoRow.holds Try.pinned (OpenSpec.upto frameNextSpec)

/-- 'scriptoriumlaw02.FrameAll', WHERE WHAT IT READS IS OF BULK AT MOST 1048576: true; the input reads as it did. -/
def frameAllUptoRow : OpenClaim := { program := "ytlgmocmekmppeaa", sum := "ec89656d463f2069d6425813fd31a4443d8d2beabbe7edc8c27b39b9b9dee073", func := "scriptorium/scriptoriumlaw02.FrameAll", spec := "frameAll", unfollowed := true, recurses := true, apart := false, narrowed := true }
def FrameAllUptoSaid : Prop := frameAllUptoRow.holds Try.pinned (OpenSpec.upto frameAllSpec)

/-- 'scriptoriumlaw02.FrameBack', WHERE WHAT IT READS IS OF BULK AT MOST 1048576: true; the input reads as it did. -/
def frameBackUptoRow : OpenClaim := { program := "ytlgmocmekmppeaa", sum := "ec89656d463f2069d6425813fd31a4443d8d2beabbe7edc8c27b39b9b9dee073", func := "scriptorium/scriptoriumlaw02.FrameBack", spec := "frameBack", unfollowed := true, recurses := true, apart := false, narrowed := true }
def FrameBackUptoSaid : Prop := frameBackUptoRow.holds Try.pinned (OpenSpec.upto frameBackSpec)

/-- 'scriptoriumlaw02.FrameTorn', WHERE WHAT IT READS IS OF BULK AT MOST 1048576: true; the input reads as it did. -/
def frameTornUptoRow : OpenClaim := { program := "ytlgmocmekmppeaa", sum := "ec89656d463f2069d6425813fd31a4443d8d2beabbe7edc8c27b39b9b9dee073", func := "scriptorium/scriptoriumlaw02.FrameTorn", spec := "frameTorn", unfollowed := true, recurses := true, apart := false, narrowed := true }
def FrameTornUptoSaid : Prop := frameTornUptoRow.holds Try.pinned (OpenSpec.upto frameTornSpec)

/-- 'scriptoriumlaw02.FrameJoined', WHERE WHAT IT READS IS OF BULK AT MOST 1048576: true; the input reads as it did. -/
def frameJoinedUptoRow : OpenClaim := { program := "ytlgmocmekmppeaa", sum := "ec89656d463f2069d6425813fd31a4443d8d2beabbe7edc8c27b39b9b9dee073", func := "scriptorium/scriptoriumlaw02.FrameJoined", spec := "frameJoined", unfollowed := true, recurses := true, apart := false, narrowed := true }
def FrameJoinedUptoSaid : Prop := frameJoinedUptoRow.holds Try.pinned (OpenSpec.upto frameJoinedSpec)

/-- 'scriptoriumlaw21.DueActs', WHERE WHAT IT READS IS OF BULK AT MOST 1048576: true; the input reads as it did. -/
def dueActsUptoRow : OpenClaim := { program := "ytlgmocmekmppeaa", sum := "ec89656d463f2069d6425813fd31a4443d8d2beabbe7edc8c27b39b9b9dee073", func := "scriptorium/scriptoriumlaw21.DueActs", spec := "dueActs", unfollowed := true, recurses := true, apart := false, narrowed := true }
def DueActsUptoSaid : Prop := dueActsUptoRow.holds Try.pinned (OpenSpec.upto dueActsSpec)

/-- 'scriptoriumlaw21.DueOrders', WHERE WHAT IT READS IS OF BULK AT MOST 1048576: true; the input reads as it did. -/
def dueOrdersUptoRow : OpenClaim := { program := "ytlgmocmekmppeaa", sum := "ec89656d463f2069d6425813fd31a4443d8d2beabbe7edc8c27b39b9b9dee073", func := "scriptorium/scriptoriumlaw21.DueOrders", spec := "dueOrders", unfollowed := true, recurses := true, apart := false, narrowed := true }
def DueOrdersUptoSaid : Prop := dueOrdersUptoRow.holds Try.pinned (OpenSpec.upto dueOrdersSpec)

/-- 'scriptoriumlaw21.DueNone', WHERE WHAT IT READS IS OF BULK AT MOST 1048576: true; the input reads as it did. -/
def dueNoneUptoRow : OpenClaim := { program := "ytlgmocmekmppeaa", sum := "ec89656d463f2069d6425813fd31a4443d8d2beabbe7edc8c27b39b9b9dee073", func := "scriptorium/scriptoriumlaw21.DueNone", spec := "dueNone", unfollowed := true, recurses := true, apart := false, narrowed := true }
def DueNoneUptoSaid : Prop := dueNoneUptoRow.holds Try.pinned (OpenSpec.upto dueNoneSpec)

/-- 'scriptoriumlaw21.DueDelays', WHERE WHAT IT READS IS OF BULK AT MOST 1048576: true; the input reads as it did. -/
def dueDelaysUptoRow : OpenClaim := { program := "ytlgmocmekmppeaa", sum := "ec89656d463f2069d6425813fd31a4443d8d2beabbe7edc8c27b39b9b9dee073", func := "scriptorium/scriptoriumlaw21.DueDelays", spec := "dueDelays", unfollowed := true, recurses := true, apart := false, narrowed := true }
def DueDelaysUptoSaid : Prop := dueDelaysUptoRow.holds Try.pinned (OpenSpec.upto dueDelaysSpec)

/-- 'scriptoriumlaw04.DigestSums', WHERE WHAT IT READS IS OF BULK AT MOST 1048576: true; the input reads as it did. -/
def digestSumsUptoRow : OpenClaim := { program := "ytlgmocmekmppeaa", sum := "ec89656d463f2069d6425813fd31a4443d8d2beabbe7edc8c27b39b9b9dee073", func := "scriptorium/scriptoriumlaw04.DigestSums", spec := "digestSums", inPlace := ["internal/abi.NoEscape"], unfollowed := true, recurses := true, apart := false, narrowed := true }
def DigestSumsUptoSaid : Prop := digestSumsUptoRow.holds Try.pinned (OpenSpec.upto digestSumsSpec)

end Rows
end Go.Proofs.Ytlgmocmekmppeaa

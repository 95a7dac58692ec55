/-
  No cell of these rows narrows 'for every input' (looked for: loops, veiled, ifaces, maps, wideKeys, modest, calm, conditions, laid).
  DERIVED. THE GIVEN ROWS OF THIS SEAT. 7 by the template 'for every input the law returns true; each argument reads behind the call as it read before'; 0 by the template 'total and deterministic' (their statements: YtnepmhdnkcnnmaaTotals.lean).
  GIVEN WITH THE SEED: the statements are not yours to turn. If you find one false, say at which input.
  Laid BY PROGRAM, IN A SANDBOX (cutbox-rows.mjs): the forced cells as the released guide's own fill.sh prints them over the translation 3f051ad7f9204544… (all of the seat's roots in one cut). By AI agents, Wed Nov 11 2026. No macro, syntax, notation, axiom, sorry.
-/
import Derived.Test.YtnepmhdnkcnnmaaChecked
import GoSem.Claim
import GoSem.ClaimJoined
import GoSem.ClaimMapViews
import Derived.JoinedTies
import Derived.KernelRfl
namespace Go.Proofs.Ytnepmhdnkcnnmaa
/- THE CELL 'sum', in the pinned program and in every row, IS THE sha256 OF THE DUMP (.gsa) THAT YtnepmhdnkcnnmaaProg.lean LOADS. Nothing in Lean hashes anything: it is a label: what it is worth is what the hold of that sum in a sandbox is worth. -/
noncomputable def Try.pinned : Pinned := { name := "ytnepmhdnkcnnmaa", sum := "3f051ad7f9204544f63b11370c3f58851446b49f5ccd94f2ad80f52f93b47873", checked := Try.checked }
namespace Rows
def none {H : Type} : Left H := { results := [], args := [] }

/-- 'scriptoriumlaw06.SealOf': WHATEVER THE INPUT: true; the input reads as it did. -/
def sealOfSpec : ChangeSpec := { name := "sealOf", fn := fun _ => fun
  | [d1, d2, d3] => { results := [.lit (.bool true)], args := [d1, d2, d3] }
  | _ => none }
def sealOfRow : OpenClaim := { program := "ytnepmhdnkcnnmaa", sum := "3f051ad7f9204544f63b11370c3f58851446b49f5ccd94f2ad80f52f93b47873", func := "scriptorium/scriptoriumlaw06.SealOf", spec := "sealOf", unfollowed := true, recurses := true, apart := false }
def SealOfSaid : Prop := sealOfRow.holds Try.pinned (OpenSpec.ofChange sealOfSpec)

/-- ITS FALSE NEIGHBOUR: 'it returns false'. Refute it at one input. -/
def sealOfWrong : ChangeSpec := { name := "sealOf", fn := fun _ => fun
  | [d1, d2, d3] => { results := [.lit (.bool false)], args := [d1, d2, d3] }
  | _ => none }
def SealOfWrongFalsely : Prop := sealOfRow.holds Try.pinned (OpenSpec.ofChange sealOfWrong)

/-- 'scriptoriumlaw06.SealBytes': WHATEVER THE INPUT: true; the input reads as it did. -/
def sealBytesSpec : ChangeSpec := { name := "sealBytes", fn := fun _ => fun
  | [d] => { results := [.lit (.bool true)], args := [d] }
  | _ => none }
def sealBytesRow : OpenClaim := { program := "ytnepmhdnkcnnmaa", sum := "3f051ad7f9204544f63b11370c3f58851446b49f5ccd94f2ad80f52f93b47873", func := "scriptorium/scriptoriumlaw06.SealBytes", spec := "sealBytes", unfollowed := true, recurses := true, apart := false }
def SealBytesSaid : Prop := sealBytesRow.holds Try.pinned (OpenSpec.ofChange sealBytesSpec)

/-- ITS FALSE NEIGHBOUR: 'it returns false'. Refute it at one input. -/
def sealBytesWrong : ChangeSpec := { name := "sealBytes", fn := fun _ => fun
  | [d] => { results := [.lit (.bool false)], args := [d] }
  | _ => none }
def SealBytesWrongFalsely : Prop := sealBytesRow.holds Try.pinned (OpenSpec.ofChange sealBytesWrong)

/-- 'scriptoriumlaw06.SealChains': WHATEVER THE INPUT: true; the input reads as it did. -/
def sealChainsSpec : ChangeSpec := { name := "sealChains", fn := fun _ => fun
  | [d] => { results := [.lit (.bool true)], args := [d] }
  | _ => none }
def sealChainsRow : OpenClaim := { program := "ytnepmhdnkcnnmaa", sum := "3f051ad7f9204544f63b11370c3f58851446b49f5ccd94f2ad80f52f93b47873", func := "scriptorium/scriptoriumlaw06.SealChains", spec := "sealChains", unfollowed := true, recurses := true, apart := false }
def SealChainsSaid : Prop := sealChainsRow.holds Try.pinned (OpenSpec.ofChange sealChainsSpec)

/-- ITS FALSE NEIGHBOUR: 'it returns false'. Refute it at one input. -/
def sealChainsWrong : ChangeSpec := { name := "sealChains", fn := fun _ => fun
  | [d] => { results := [.lit (.bool false)], args := [d] }
  | _ => none }
def SealChainsWrongFalsely : Prop := sealChainsRow.holds Try.pinned (OpenSpec.ofChange sealChainsWrong)

/-- 'scriptoriumlaw06.SealHolds': WHATEVER THE INPUT: true; the input reads as it did. -/
def sealHoldsSpec : ChangeSpec := { name := "sealHolds", fn := fun _ => fun
  | [d1, d2] => { results := [.lit (.bool true)], args := [d1, d2] }
  | _ => none }
def sealHoldsRow : OpenClaim := { program := "ytnepmhdnkcnnmaa", sum := "3f051ad7f9204544f63b11370c3f58851446b49f5ccd94f2ad80f52f93b47873", func := "scriptorium/scriptoriumlaw06.SealHolds", spec := "sealHolds", unfollowed := true, recurses := true, apart := false }
def SealHoldsSaid : Prop := sealHoldsRow.holds Try.pinned (OpenSpec.ofChange sealHoldsSpec)

/-- ITS FALSE NEIGHBOUR: 'it returns false'. Refute it at one input. -/
def sealHoldsWrong : ChangeSpec := { name := "sealHolds", fn := fun _ => fun
  | [d1, d2] => { results := [.lit (.bool false)], args := [d1, d2] }
  | _ => none }
def SealHoldsWrongFalsely : Prop := sealHoldsRow.holds Try.pinned (OpenSpec.ofChange sealHoldsWrong)

/-- 'scriptoriumlaw06.SealBound': WHATEVER THE INPUT: true; the input reads as it did. -/
def sealBoundSpec : ChangeSpec := { name := "sealBound", fn := fun _ => fun
  | [d1, d2, d3] => { results := [.lit (.bool true)], args := [d1, d2, d3] }
  | _ => none }
def sealBoundRow : OpenClaim := { program := "ytnepmhdnkcnnmaa", sum := "3f051ad7f9204544f63b11370c3f58851446b49f5ccd94f2ad80f52f93b47873", func := "scriptorium/scriptoriumlaw06.SealBound", spec := "sealBound", unfollowed := true, recurses := true, apart := false }
def SealBoundSaid : Prop := sealBoundRow.holds Try.pinned (OpenSpec.ofChange sealBoundSpec)

/-- ITS FALSE NEIGHBOUR: 'it returns false'. Refute it at one input. -/
def sealBoundWrong : ChangeSpec := { name := "sealBound", fn := fun _ => fun
  | [d1, d2, d3] => { results := [.lit (.bool false)], args := [d1, d2, d3] }
  | _ => none }
def SealBoundWrongFalsely : Prop := sealBoundRow.holds Try.pinned (OpenSpec.ofChange sealBoundWrong)

/-- 'scriptoriumlaw06.SealParses': WHATEVER THE INPUT: true; the input reads as it did. -/
def sealParsesSpec : ChangeSpec := { name := "sealParses", fn := fun _ => fun
  | [d] => { results := [.lit (.bool true)], args := [d] }
  | _ => none }
def sealParsesRow : OpenClaim := { program := "ytnepmhdnkcnnmaa", sum := "3f051ad7f9204544f63b11370c3f58851446b49f5ccd94f2ad80f52f93b47873", func := "scriptorium/scriptoriumlaw06.SealParses", spec := "sealParses", unfollowed := true, recurses := true, apart := false }
def SealParsesSaid : Prop := sealParsesRow.holds Try.pinned (OpenSpec.ofChange sealParsesSpec)

/-- ITS FALSE NEIGHBOUR: 'it returns false'. Refute it at one input. -/
def sealParsesWrong : ChangeSpec := { name := "sealParses", fn := fun _ => fun
  | [d] => { results := [.lit (.bool false)], args := [d] }
  | _ => none }
def SealParsesWrongFalsely : Prop := sealParsesRow.holds Try.pinned (OpenSpec.ofChange sealParsesWrong)

/-- 'scriptoriumlaw06.SealBack': WHATEVER THE INPUT: true; the input reads as it did. -/
def sealBackSpec : ChangeSpec := { name := "sealBack", fn := fun _ => fun
  | [d] => { results := [.lit (.bool true)], args := [d] }
  | _ => none }
def sealBackRow : OpenClaim := { program := "ytnepmhdnkcnnmaa", sum := "3f051ad7f9204544f63b11370c3f58851446b49f5ccd94f2ad80f52f93b47873", func := "scriptorium/scriptoriumlaw06.SealBack", spec := "sealBack", unfollowed := true, recurses := true, apart := false }
def SealBackSaid : Prop := sealBackRow.holds Try.pinned (OpenSpec.ofChange sealBackSpec)

/-- ITS FALSE NEIGHBOUR: 'it returns false'. Refute it at one input. -/
def sealBackWrong : ChangeSpec := { name := "sealBack", fn := fun _ => fun
  | [d] => { results := [.lit (.bool false)], args := [d] }
  | _ => none }
def SealBackWrongFalsely : Prop := sealBackRow.holds Try.pinned (OpenSpec.ofChange sealBackWrong)

/- THE SECOND FORM. 'bulk': how many values and letters a reading holds, each counted each time it is reached (what is shared counts as often as it is met; a slice's spare places count too). A statement '..UptoSaid' is the law's where the arguments, and the package variables that the reading takes, are together of bulk at most 1048576: NARROWER than '..Said'. Prove '..Said' where nothing that the law and all that it calls make is longer than what came in: it says more and counts as full. Else prove '..UptoSaid'. A law counts once. -/
mutual
def uptoBulk {H : Type} : DataW H → Nat
  | .lit (.string bytes) => bytes.length + 1
  | .lit _ => 1
  | .nil => 1
  | .ptr d => uptoBulk d + 1
  | .slice elems spare => uptoBulkAll elems + uptoBulkAll spare + 1
  | .agg parts => uptoBulkAll parts + 1
  | .iface _ d => uptoBulk d + 1
  | .map entries => uptoBulkEntries entries + 1
  | .held _ => 1
def uptoBulkAll {H : Type} : List (DataW H) → Nat
  | [] => 0
  | d :: r => uptoBulk d + uptoBulkAll r
def uptoBulkEntries {H : Type} : List (Lit × DataW H) → Nat
  | [] => 0
  | x :: r => uptoBulkEntry x + uptoBulkEntries r
def uptoBulkEntry {H : Type} : Lit × DataW H → Nat
  | (.string bytes, d) => bytes.length + uptoBulk d + 1
  | (_, d) => uptoBulk d + 1
 end
def uptoSmall : (H : Type) → List (DataW H) → Bool := fun _ ds => decide (uptoBulkAll ds ≤ 1048576)
def OpenSpec.upto (s : _root_.Go.ChangeSpec) : _root_.Go.OpenSpec := { _root_.Go.OpenSpec.ofChange s with cond := some uptoSmall }

/-- 'scriptoriumlaw06.SealOf', WHERE WHAT IT READS IS OF BULK AT MOST 1048576: true; the input reads as it did. -/
def sealOfUptoRow : OpenClaim := { program := "ytnepmhdnkcnnmaa", sum := "3f051ad7f9204544f63b11370c3f58851446b49f5ccd94f2ad80f52f93b47873", func := "scriptorium/scriptoriumlaw06.SealOf", spec := "sealOf", unfollowed := true, recurses := true, apart := false, narrowed := true }
def SealOfUptoSaid : Prop := sealOfUptoRow.holds Try.pinned (OpenSpec.upto sealOfSpec)

/-- 'scriptoriumlaw06.SealBytes', WHERE WHAT IT READS IS OF BULK AT MOST 1048576: true; the input reads as it did. -/
def sealBytesUptoRow : OpenClaim := { program := "ytnepmhdnkcnnmaa", sum := "3f051ad7f9204544f63b11370c3f58851446b49f5ccd94f2ad80f52f93b47873", func := "scriptorium/scriptoriumlaw06.SealBytes", spec := "sealBytes", unfollowed := true, recurses := true, apart := false, narrowed := true }
def SealBytesUptoSaid : Prop := sealBytesUptoRow.holds Try.pinned (OpenSpec.upto sealBytesSpec)

/-- 'scriptoriumlaw06.SealChains', WHERE WHAT IT READS IS OF BULK AT MOST 1048576: true; the input reads as it did. -/
def sealChainsUptoRow : OpenClaim := { program := "ytnepmhdnkcnnmaa", sum := "3f051ad7f9204544f63b11370c3f58851446b49f5ccd94f2ad80f52f93b47873", func := "scriptorium/scriptoriumlaw06.SealChains", spec := "sealChains", unfollowed := true, recurses := true, apart := false, narrowed := true }
def SealChainsUptoSaid : Prop := sealChainsUptoRow.holds Try.pinned (OpenSpec.upto sealChainsSpec)

/-- 'scriptoriumlaw06.SealHolds', WHERE WHAT IT READS IS OF BULK AT MOST 1048576: true; the input reads as it did. -/
def sealHoldsUptoRow : OpenClaim := { program := "ytnepmhdnkcnnmaa", sum := "3f051ad7f9204544f63b11370c3f58851446b49f5ccd94f2ad80f52f93b47873", func := "scriptorium/scriptoriumlaw06.SealHolds", spec := "sealHolds", unfollowed := true, recurses := true, apart := false, narrowed := true }
def SealHoldsUptoSaid : Prop := sealHoldsUptoRow.holds Try.pinned (OpenSpec.upto sealHoldsSpec)

/-- 'scriptoriumlaw06.SealBound', WHERE WHAT IT READS IS OF BULK AT MOST 1048576: true; the input reads as it did. -/
def sealBoundUptoRow : OpenClaim := { program := "ytnepmhdnkcnnmaa", sum := "3f051ad7f9204544f63b11370c3f58851446b49f5ccd94f2ad80f52f93b47873", func := "scriptorium/scriptoriumlaw06.SealBound", spec := "sealBound", unfollowed := true, recurses := true, apart := false, narrowed := true }
def SealBoundUptoSaid : Prop := sealBoundUptoRow.holds Try.pinned (OpenSpec.upto sealBoundSpec)

/-- 'scriptoriumlaw06.SealParses', WHERE WHAT IT READS IS OF BULK AT MOST 1048576: true; the input reads as it did. -/
def sealParsesUptoRow : OpenClaim := { program := "ytnepmhdnkcnnmaa", sum := "3f051ad7f9204544f63b11370c3f58851446b49f5ccd94f2ad80f52f93b47873", func := "scriptorium/scriptoriumlaw06.SealParses", spec := "sealParses", unfollowed := true, recurses := true, apart := false, narrowed := true }
def SealParsesUptoSaid : Prop := sealParsesUptoRow.holds Try.pinned (OpenSpec.upto sealParsesSpec)

/-- 'scriptoriumlaw06.SealBack', WHERE WHAT IT READS IS OF BULK AT MOST 1048576: true; the input reads as it did. -/
def sealBackUptoRow : OpenClaim := { program := "ytnepmhdnkcnnmaa", sum := "3f051ad7f9204544f63b11370c3f58851446b49f5ccd94f2ad80f52f93b47873", func := "scriptorium/scriptoriumlaw06.SealBack", spec := "sealBack", unfollowed := true, recurses := true, apart := false, narrowed := true }
def SealBackUptoSaid : Prop := sealBackUptoRow.holds Try.pinned (OpenSpec.upto sealBackSpec)

end Rows
end Go.Proofs.Ytnepmhdnkcnnmaa

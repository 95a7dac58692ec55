/-
  No cell of these rows narrows 'for every input' (looked for: loops, veiled, ifaces, maps, wideKeys, modest, calm, conditions, laid).
  DERIVED. THE GIVEN ROWS OF THIS SEAT. 11 by the template 'for every input the law returns true; each argument reads behind the call as it read before'; 0 by the template 'total and deterministic' (their statements: YtlgodokgebjjaaaTotals.lean).
  GIVEN WITH THE SEED: the statements are not yours to turn. If you find one false, say at which input.
  Laid BY PROGRAM, IN A SANDBOX (cutbox-rows.mjs): the forced cells as the released guide's own fill.sh prints them over the translation 3fcb61ac4b8befef… (all of the seat's roots in one cut). By AI agents, Wed Nov 11 2026. No macro, syntax, notation, axiom, sorry.
-/
import Derived.Test.YtlgodokgebjjaaaChecked
import GoSem.Claim
import GoSem.ClaimJoined
import GoSem.ClaimMapViews
import Derived.JoinedTies
import Derived.KernelRfl
namespace Go.Proofs.Ytlgodokgebjjaaa
/- THE CELL 'sum', in the pinned program and in every row, IS THE sha256 OF THE DUMP (.gsa) THAT YtlgodokgebjjaaaProg.lean LOADS. Nothing in Lean hashes anything: it is a label: what it is worth is what the hold of that sum in a sandbox is worth. -/
noncomputable def Try.pinned : Pinned := { name := "ytlgodokgebjjaaa", sum := "3fcb61ac4b8befef78cc05680d97628a5993b74c015aef0c3c004e9d93157054", checked := Try.checked }
namespace Rows
def none {H : Type} : Left H := { results := [], args := [] }

/-- 'scriptoriumlaw26.ClientExchanges': WHATEVER THE INPUT: true; the input reads as it did. -/
def clientExchangesSpec : ChangeSpec := { name := "clientExchanges", fn := fun _ => fun
  | [d1, d2, d3, d4, d5] => { results := [.lit (.bool true)], args := [d1, d2, d3, d4, d5] }
  | _ => none }
def clientExchangesRow : OpenClaim := { program := "ytlgodokgebjjaaa", sum := "3fcb61ac4b8befef78cc05680d97628a5993b74c015aef0c3c004e9d93157054", func := "scriptorium/scriptoriumlaw26.ClientExchanges", spec := "clientExchanges", inPlace := ["internal/bytealg.IndexByteString", "internal/bytealg.IndexString", "internal/bytealg.IndexByte", "internal/bytealg.Index"], unfollowed := true, recurses := true, named := ["internal/bytealg.MaxLen"], apart := false }
def ClientExchangesSaid : Prop := clientExchangesRow.holds Try.pinned (OpenSpec.ofChange clientExchangesSpec)

/-- ITS FALSE NEIGHBOUR: 'it returns false'. Refute it at one input. -/
def clientExchangesWrong : ChangeSpec := { name := "clientExchanges", fn := fun _ => fun
  | [d1, d2, d3, d4, d5] => { results := [.lit (.bool false)], args := [d1, d2, d3, d4, d5] }
  | _ => none }
def ClientExchangesWrongFalsely : Prop := clientExchangesRow.holds Try.pinned (OpenSpec.ofChange clientExchangesWrong)

/-- 'scriptoriumlaw26.ClientFinals': WHATEVER THE INPUT: true; the input reads as it did. -/
def clientFinalsSpec : ChangeSpec := { name := "clientFinals", fn := fun _ => fun
  | [d] => { results := [.lit (.bool true)], args := [d] }
  | _ => none }
def clientFinalsRow : OpenClaim := { program := "ytlgodokgebjjaaa", sum := "3fcb61ac4b8befef78cc05680d97628a5993b74c015aef0c3c004e9d93157054", func := "scriptorium/scriptoriumlaw26.ClientFinals", spec := "clientFinals", inPlace := ["internal/bytealg.IndexByteString", "internal/bytealg.IndexString", "internal/bytealg.IndexByte", "internal/bytealg.Index"], unfollowed := true, recurses := true, named := ["internal/bytealg.MaxLen"], apart := false }
def ClientFinalsSaid : Prop := clientFinalsRow.holds Try.pinned (OpenSpec.ofChange clientFinalsSpec)

/-- ITS FALSE NEIGHBOUR: 'it returns false'. Refute it at one input. -/
def clientFinalsWrong : ChangeSpec := { name := "clientFinals", fn := fun _ => fun
  | [d] => { results := [.lit (.bool false)], args := [d] }
  | _ => none }
def ClientFinalsWrongFalsely : Prop := clientFinalsRow.holds Try.pinned (OpenSpec.ofChange clientFinalsWrong)

/-- 'scriptoriumlaw26.ClientOnce': WHATEVER THE INPUT: true; the input reads as it did. -/
def clientOnceSpec : ChangeSpec := { name := "clientOnce", fn := fun _ => fun
  | [d1, d2, d3, d4, d5] => { results := [.lit (.bool true)], args := [d1, d2, d3, d4, d5] }
  | _ => none }
def clientOnceRow : OpenClaim := { program := "ytlgodokgebjjaaa", sum := "3fcb61ac4b8befef78cc05680d97628a5993b74c015aef0c3c004e9d93157054", func := "scriptorium/scriptoriumlaw26.ClientOnce", spec := "clientOnce", inPlace := ["internal/bytealg.IndexByteString", "internal/bytealg.IndexString", "internal/bytealg.IndexByte", "internal/bytealg.Index"], unfollowed := true, recurses := true, named := ["internal/bytealg.MaxLen"], apart := false }
def ClientOnceSaid : Prop := clientOnceRow.holds Try.pinned (OpenSpec.ofChange clientOnceSpec)

/-- ITS FALSE NEIGHBOUR: 'it returns false'. Refute it at one input. -/
def clientOnceWrong : ChangeSpec := { name := "clientOnce", fn := fun _ => fun
  | [d1, d2, d3, d4, d5] => { results := [.lit (.bool false)], args := [d1, d2, d3, d4, d5] }
  | _ => none }
def ClientOnceWrongFalsely : Prop := clientOnceRow.holds Try.pinned (OpenSpec.ofChange clientOnceWrong)

/-- 'scriptoriumlaw26.ClientStops': WHATEVER THE INPUT: true; the input reads as it did. -/
def clientStopsSpec : ChangeSpec := { name := "clientStops", fn := fun _ => fun
  | [d1, d2, d3, d4, d5, d6] => { results := [.lit (.bool true)], args := [d1, d2, d3, d4, d5, d6] }
  | _ => none }
def clientStopsRow : OpenClaim := { program := "ytlgodokgebjjaaa", sum := "3fcb61ac4b8befef78cc05680d97628a5993b74c015aef0c3c004e9d93157054", func := "scriptorium/scriptoriumlaw26.ClientStops", spec := "clientStops", inPlace := ["internal/bytealg.IndexByteString", "internal/bytealg.IndexString", "internal/bytealg.IndexByte", "internal/bytealg.Index"], unfollowed := true, recurses := true, named := ["internal/bytealg.MaxLen"], apart := false }
def ClientStopsSaid : Prop := clientStopsRow.holds Try.pinned (OpenSpec.ofChange clientStopsSpec)

/-- ITS FALSE NEIGHBOUR: 'it returns false'. Refute it at one input. -/
def clientStopsWrong : ChangeSpec := { name := "clientStops", fn := fun _ => fun
  | [d1, d2, d3, d4, d5, d6] => { results := [.lit (.bool false)], args := [d1, d2, d3, d4, d5, d6] }
  | _ => none }
def ClientStopsWrongFalsely : Prop := clientStopsRow.holds Try.pinned (OpenSpec.ofChange clientStopsWrong)

/-- 'scriptoriumlaw26.ClientReplies': WHATEVER THE INPUT: true; the input reads as it did. -/
def clientRepliesSpec : ChangeSpec := { name := "clientReplies", fn := fun _ => fun
  | [d] => { results := [.lit (.bool true)], args := [d] }
  | _ => none }
def clientRepliesRow : OpenClaim := { program := "ytlgodokgebjjaaa", sum := "3fcb61ac4b8befef78cc05680d97628a5993b74c015aef0c3c004e9d93157054", func := "scriptorium/scriptoriumlaw26.ClientReplies", spec := "clientReplies", inPlace := ["internal/bytealg.IndexByteString", "internal/bytealg.IndexString", "internal/bytealg.IndexByte", "internal/bytealg.Index"], unfollowed := true, recurses := true, named := ["internal/bytealg.MaxLen"], apart := false }
def ClientRepliesSaid : Prop := clientRepliesRow.holds Try.pinned (OpenSpec.ofChange clientRepliesSpec)

/-- ITS FALSE NEIGHBOUR: 'it returns false'. Refute it at one input. -/
def clientRepliesWrong : ChangeSpec := { name := "clientReplies", fn := fun _ => fun
  | [d] => { results := [.lit (.bool false)], args := [d] }
  | _ => none }
def ClientRepliesWrongFalsely : Prop := clientRepliesRow.holds Try.pinned (OpenSpec.ofChange clientRepliesWrong)

/-- 'scriptoriumlaw18.PostingOf': WHATEVER THE INPUT: true; the input reads as it did. -/
def postingOfSpec : ChangeSpec := { name := "postingOf", fn := fun _ => fun
  | [d] => { results := [.lit (.bool true)], args := [d] }
  | _ => none }
def postingOfRow : OpenClaim := { program := "ytlgodokgebjjaaa", sum := "3fcb61ac4b8befef78cc05680d97628a5993b74c015aef0c3c004e9d93157054", func := "scriptorium/scriptoriumlaw18.PostingOf", spec := "postingOf", recurses := true, apart := false }
def PostingOfSaid : Prop := postingOfRow.holds Try.pinned (OpenSpec.ofChange postingOfSpec)

/-- ITS FALSE NEIGHBOUR: 'it returns false'. Refute it at one input. -/
def postingOfWrong : ChangeSpec := { name := "postingOf", fn := fun _ => fun
  | [d] => { results := [.lit (.bool false)], args := [d] }
  | _ => none }
def PostingOfWrongFalsely : Prop := postingOfRow.holds Try.pinned (OpenSpec.ofChange postingOfWrong)

/-- 'scriptoriumlaw18.PostingHas': WHATEVER THE INPUT: true; the input reads as it did. -/
def postingHasSpec : ChangeSpec := { name := "postingHas", fn := fun _ => fun
  | [d1, d2] => { results := [.lit (.bool true)], args := [d1, d2] }
  | _ => none }
def postingHasRow : OpenClaim := { program := "ytlgodokgebjjaaa", sum := "3fcb61ac4b8befef78cc05680d97628a5993b74c015aef0c3c004e9d93157054", func := "scriptorium/scriptoriumlaw18.PostingHas", spec := "postingHas", recurses := true, apart := false }
def PostingHasSaid : Prop := postingHasRow.holds Try.pinned (OpenSpec.ofChange postingHasSpec)

/-- ITS FALSE NEIGHBOUR: 'it returns false'. Refute it at one input. -/
def postingHasWrong : ChangeSpec := { name := "postingHas", fn := fun _ => fun
  | [d1, d2] => { results := [.lit (.bool false)], args := [d1, d2] }
  | _ => none }
def PostingHasWrongFalsely : Prop := postingHasRow.holds Try.pinned (OpenSpec.ofChange postingHasWrong)

/-- 'scriptoriumlaw01.DiskNames': WHATEVER THE INPUT: true; the input reads as it did. -/
def diskNamesSpec : ChangeSpec := { name := "diskNames", fn := fun _ => fun
  | [d] => { results := [.lit (.bool true)], args := [d] }
  | _ => none }
def diskNamesRow : OpenClaim := { program := "ytlgodokgebjjaaa", sum := "3fcb61ac4b8befef78cc05680d97628a5993b74c015aef0c3c004e9d93157054", func := "scriptorium/scriptoriumlaw01.DiskNames", spec := "diskNames", unfollowed := true, recurses := true, apart := false }
def DiskNamesSaid : Prop := diskNamesRow.holds Try.pinned (OpenSpec.ofChange diskNamesSpec)

/-- ITS FALSE NEIGHBOUR: 'it returns false'. Refute it at one input. -/
def diskNamesWrong : ChangeSpec := { name := "diskNames", fn := fun _ => fun
  | [d] => { results := [.lit (.bool false)], args := [d] }
  | _ => none }
def DiskNamesWrongFalsely : Prop := diskNamesRow.holds Try.pinned (OpenSpec.ofChange diskNamesWrong)

/-- 'scriptoriumlaw18.PostingMerges': WHATEVER THE INPUT: true; the input reads as it did. -/
def postingMergesSpec : ChangeSpec := { name := "postingMerges", fn := fun _ => fun
  | [d] => { results := [.lit (.bool true)], args := [d] }
  | _ => none }
def postingMergesRow : OpenClaim := { program := "ytlgodokgebjjaaa", sum := "3fcb61ac4b8befef78cc05680d97628a5993b74c015aef0c3c004e9d93157054", func := "scriptorium/scriptoriumlaw18.PostingMerges", spec := "postingMerges", unfollowed := true, recurses := true, apart := false }
def PostingMergesSaid : Prop := postingMergesRow.holds Try.pinned (OpenSpec.ofChange postingMergesSpec)

/-- ITS FALSE NEIGHBOUR: 'it returns false'. Refute it at one input. -/
def postingMergesWrong : ChangeSpec := { name := "postingMerges", fn := fun _ => fun
  | [d] => { results := [.lit (.bool false)], args := [d] }
  | _ => none }
def PostingMergesWrongFalsely : Prop := postingMergesRow.holds Try.pinned (OpenSpec.ofChange postingMergesWrong)

/-- 'scriptoriumlaw18.PostingSets': WHATEVER THE INPUT: true; the input reads as it did. -/
def postingSetsSpec : ChangeSpec := { name := "postingSets", fn := fun _ => fun
  | [d1, d2] => { results := [.lit (.bool true)], args := [d1, d2] }
  | _ => none }
def postingSetsRow : OpenClaim := { program := "ytlgodokgebjjaaa", sum := "3fcb61ac4b8befef78cc05680d97628a5993b74c015aef0c3c004e9d93157054", func := "scriptorium/scriptoriumlaw18.PostingSets", spec := "postingSets", unfollowed := true, recurses := true, apart := false }
def PostingSetsSaid : Prop := postingSetsRow.holds Try.pinned (OpenSpec.ofChange postingSetsSpec)

/-- ITS FALSE NEIGHBOUR: 'it returns false'. Refute it at one input. -/
def postingSetsWrong : ChangeSpec := { name := "postingSets", fn := fun _ => fun
  | [d1, d2] => { results := [.lit (.bool false)], args := [d1, d2] }
  | _ => none }
def PostingSetsWrongFalsely : Prop := postingSetsRow.holds Try.pinned (OpenSpec.ofChange postingSetsWrong)

/-- 'scriptoriumlaw18.PostingLaws': WHATEVER THE INPUT: true; the input reads as it did. -/
def postingLawsSpec : ChangeSpec := { name := "postingLaws", fn := fun _ => fun
  | [d1, d2, d3] => { results := [.lit (.bool true)], args := [d1, d2, d3] }
  | _ => none }
def postingLawsRow : OpenClaim := { program := "ytlgodokgebjjaaa", sum := "3fcb61ac4b8befef78cc05680d97628a5993b74c015aef0c3c004e9d93157054", func := "scriptorium/scriptoriumlaw18.PostingLaws", spec := "postingLaws", unfollowed := true, recurses := true, apart := false }
def PostingLawsSaid : Prop := postingLawsRow.holds Try.pinned (OpenSpec.ofChange postingLawsSpec)

/-- ITS FALSE NEIGHBOUR: 'it returns false'. Refute it at one input. -/
def postingLawsWrong : ChangeSpec := { name := "postingLaws", fn := fun _ => fun
  | [d1, d2, d3] => { results := [.lit (.bool false)], args := [d1, d2, d3] }
  | _ => none }
def PostingLawsWrongFalsely : Prop := postingLawsRow.holds Try.pinned (OpenSpec.ofChange postingLawsWrong)

/- THE SECOND FORM. 'bulk': how many values and letters a reading holds, each counted each time it is reached (what is shared counts as often as it is met; a slice's spare places count too). A statement '..UptoSaid' is the law's where the arguments, and the package variables that the reading takes, are together of bulk at most 1048576: NARROWER than '..Said'. Prove '..Said' where nothing that the law and all that it calls make is longer than what came in: it says more and counts as full. Else prove '..UptoSaid'. A law counts once. -/
mutual
def uptoBulk {H : Type} : DataW H → Nat
  | .lit (.string bytes) => bytes.length + 1
  | .lit _ => 1
  | .nil => 1
  | .ptr d => uptoBulk d + 1
  | .slice elems spare => uptoBulkAll elems + uptoBulkAll spare + 1
  | .agg parts => uptoBulkAll parts + 1
  | .iface _ d => uptoBulk d + 1
  | .map entries => uptoBulkEntries entries + 1
  | .held _ => 1
def uptoBulkAll {H : Type} : List (DataW H) → Nat
  | [] => 0
  | d :: r => uptoBulk d + uptoBulkAll r
def uptoBulkEntries {H : Type} : List (Lit × DataW H) → Nat
  | [] => 0
  | x :: r => uptoBulkEntry x + uptoBulkEntries r
def uptoBulkEntry {H : Type} : Lit × DataW H → Nat
  | (.string bytes, d) => bytes.length + uptoBulk d + 1
  | (_, d) => uptoBulk d + 1
 end
def uptoSmall : (H : Type) → List (DataW H) → Bool := fun _ ds => decide (uptoBulkAll ds ≤ 1048576)
def OpenSpec.upto (s : _root_.Go.ChangeSpec) : _root_.Go.OpenSpec := { _root_.Go.OpenSpec.ofChange s with cond := some uptoSmall }

/-- 'scriptoriumlaw26.ClientExchanges', WHERE WHAT IT READS IS OF BULK AT MOST 1048576: true; the input reads as it did. -/
def clientExchangesUptoRow : OpenClaim := { program := "ytlgodokgebjjaaa", sum := "3fcb61ac4b8befef78cc05680d97628a5993b74c015aef0c3c004e9d93157054", func := "scriptorium/scriptoriumlaw26.ClientExchanges", spec := "clientExchanges", inPlace := ["internal/bytealg.IndexByteString", "internal/bytealg.IndexString", "internal/bytealg.IndexByte", "internal/bytealg.Index"], unfollowed := true, recurses := true, named := ["internal/bytealg.MaxLen"], apart := false, narrowed := true }
def ClientExchangesUptoSaid : Prop := clientExchangesUptoRow.holds Try.pinned (OpenSpec.upto clientExchangesSpec)

/-- 'scriptoriumlaw26.ClientFinals', WHERE WHAT IT READS IS OF BULK AT MOST 1048576: true; the input reads as it did. -/
def clientFinalsUptoRow : OpenClaim := { program := "ytlgodokgebjjaaa", sum := "3fcb61ac4b8befef78cc05680d97628a5993b74c015aef0c3c004e9d93157054", func := "scriptorium/scriptoriumlaw26.ClientFinals", spec := "clientFinals", inPlace := ["internal/bytealg.IndexByteString", "internal/bytealg.IndexString", "internal/bytealg.IndexByte", "internal/bytealg.Index"], unfollowed := true, recurses := true, named := ["internal/bytealg.MaxLen"], apart := false, narrowed := true }
def ClientFinalsUptoSaid : Prop := clientFinalsUptoRow.holds Try.pinned (OpenSpec.upto clientFinalsSpec)

/-- 'scriptoriumlaw26.ClientOnce', WHERE WHAT IT READS IS OF BULK AT MOST 1048576: true; the input reads as it did. -/
def clientOnceUptoRow : OpenClaim := { program := "ytlgodokgebjjaaa", sum := "3fcb61ac4b8befef78cc05680d97628a5993b74c015aef0c3c004e9d93157054", func := "scriptorium/scriptoriumlaw26.ClientOnce", spec := "clientOnce", inPlace := ["internal/bytealg.IndexByteString", "internal/bytealg.IndexString", "internal/bytealg.IndexByte", "internal/bytealg.Index"], unfollowed := true, recurses := true, named := ["internal/bytealg.MaxLen"], apart := false, narrowed := true }
def ClientOnceUptoSaid : Prop := clientOnceUptoRow.holds Try.pinned (OpenSpec.upto clientOnceSpec)

/-- 'scriptoriumlaw26.ClientStops', WHERE WHAT IT READS IS OF BULK AT MOST 1048576: true; the input reads as it did. -/
def clientStopsUptoRow : OpenClaim := { program := "ytlgodokgebjjaaa", sum := "3fcb61ac4b8befef78cc05680d97628a5993b74c015aef0c3c004e9d93157054", func := "scriptorium/scriptoriumlaw26.ClientStops", spec := "clientStops", inPlace := ["internal/bytealg.IndexByteString", "internal/bytealg.IndexString", "internal/bytealg.IndexByte", "internal/bytealg.Index"], unfollowed := true, recurses := true, named := ["internal/bytealg.MaxLen"], apart := false, narrowed := true }
def ClientStopsUptoSaid : Prop := clientStopsUptoRow.holds Try.pinned (OpenSpec.upto clientStopsSpec)

/-- 'scriptoriumlaw26.ClientReplies', WHERE WHAT IT READS IS OF BULK AT MOST 1048576: true; the input reads as it did. -/
def clientRepliesUptoRow : OpenClaim := { program := "ytlgodokgebjjaaa", sum := "3fcb61ac4b8befef78cc05680d97628a5993b74c015aef0c3c004e9d93157054", func := "scriptorium/scriptoriumlaw26.ClientReplies", spec := "clientReplies", inPlace := ["internal/bytealg.IndexByteString", "internal/bytealg.IndexString", "internal/bytealg.IndexByte", "internal/bytealg.Index"], unfollowed := true, recurses := true, named := ["internal/bytealg.MaxLen"], apart := false, narrowed := true }
def ClientRepliesUptoSaid : Prop := clientRepliesUptoRow.holds Try.pinned (OpenSpec.upto clientRepliesSpec)

/-- 'scriptoriumlaw18.PostingOf', WHERE WHAT IT READS IS OF BULK AT MOST 1048576: true; the input reads as it did. -/
def postingOfUptoRow : OpenClaim := { program := "ytlgodokgebjjaaa", sum := "3fcb61ac4b8befef78cc05680d97628a5993b74c015aef0c3c004e9d93157054", func := "scriptorium/scriptoriumlaw18.PostingOf", spec := "postingOf", recurses := true, apart := false, narrowed := true }
def PostingOfUptoSaid : Prop := postingOfUptoRow.holds Try.pinned (OpenSpec.upto postingOfSpec)

/-- 'scriptoriumlaw18.PostingHas', WHERE WHAT IT READS IS OF BULK AT MOST 1048576: true; the input reads as it did. -/
def postingHasUptoRow : OpenClaim := { program := "ytlgodokgebjjaaa", sum := "3fcb61ac4b8befef78cc05680d97628a5993b74c015aef0c3c004e9d93157054", func := "scriptorium/scriptoriumlaw18.PostingHas", spec := "postingHas", recurses := true, apart := false, narrowed := true }
def PostingHasUptoSaid : Prop := postingHasUptoRow.holds Try.pinned (OpenSpec.upto postingHasSpec)

/-- 'scriptoriumlaw01.DiskNames', WHERE WHAT IT READS IS OF BULK AT MOST 1048576: true; the input reads as it did. -/
def diskNamesUptoRow : OpenClaim := { program := "ytlgodokgebjjaaa", sum := "3fcb61ac4b8befef78cc05680d97628a5993b74c015aef0c3c004e9d93157054", func := "scriptorium/scriptoriumlaw01.DiskNames", spec := "diskNames", unfollowed := true, recurses := true, apart := false, narrowed := true }
def DiskNamesUptoSaid : Prop := diskNamesUptoRow.holds Try.pinned (OpenSpec.upto diskNamesSpec)

/-- 'scriptoriumlaw18.PostingMerges', WHERE WHAT IT READS IS OF BULK AT MOST 1048576: true; the input reads as it did. -/
def postingMergesUptoRow : OpenClaim := { program := "ytlgodokgebjjaaa", sum := "3fcb61ac4b8befef78cc05680d97628a5993b74c015aef0c3c004e9d93157054", func := "scriptorium/scriptoriumlaw18.PostingMerges", spec := "postingMerges", unfollowed := true, recurses := true, apart := false, narrowed := true }
def PostingMergesUptoSaid : Prop := postingMergesUptoRow.holds Try.pinned (OpenSpec.upto postingMergesSpec)

/-- 'scriptoriumlaw18.PostingSets', WHERE WHAT IT READS IS OF BULK AT MOST 1048576: true; the input reads as it did. -/
def postingSetsUptoRow : OpenClaim := { program := "ytlgodokgebjjaaa", sum := "3fcb61ac4b8befef78cc05680d97628a5993b74c015aef0c3c004e9d93157054", func := "scriptorium/scriptoriumlaw18.PostingSets", spec := "postingSets", unfollowed := true, recurses := true, apart := false, narrowed := true }
def PostingSetsUptoSaid : Prop := postingSetsUptoRow.holds Try.pinned (OpenSpec.upto postingSetsSpec)

/-- 'scriptoriumlaw18.PostingLaws', WHERE WHAT IT READS IS OF BULK AT MOST 1048576: true; the input reads as it did. -/
def postingLawsUptoRow : OpenClaim := { program := "ytlgodokgebjjaaa", sum := "3fcb61ac4b8befef78cc05680d97628a5993b74c015aef0c3c004e9d93157054", func := "scriptorium/scriptoriumlaw18.PostingLaws", spec := "postingLaws", unfollowed := true, recurses := true, apart := false, narrowed := true }
def PostingLawsUptoSaid : Prop := postingLawsUptoRow.holds Try.pinned (OpenSpec.upto postingLawsSpec)

end Rows
end Go.Proofs.Ytlgodokgebjjaaa

/- awake and few of law14; HoldPlaces, HoldCovers. -/
import Derived.RangeFuncNested
import Derived.RangeFuncBound
import Derived.RangeFuncCalls
import Derived.RangeFuncLeaves
import Derived.Shelf.Abstract
import Derived.Shelf.RegionOpen
import Derived.WalkKit
import Derived.OwnWalkIn
import Derived.TacticsInMore
import Derived.LoopNIn
import Derived.LoopIn
import Derived.Outline
import Derived.Lib.Hide
import Derived.Lib.SliceRun
import Derived.IntWalk
import Derived.WalkLawsBesides
import Derived.WalkSpells
import Derived.Laws.BitsAllLaws
import Derived.Lib.ConvBytes
import Derived.Maps.AppendAt
import Derived.Lib.AppendStr
import Derived.Lib.SlBytesConst
import Derived.Laws.AppendOwnNone
import Derived.Laws.OwnMore
import Derived.Laws.BytesArg
import Derived.Deep.RegionHeld3
import Derived.BigQuiet
import Derived.Deep.RegionLaw
import Derived.Deep.QuietTactic
import Derived.Lib.OthersKept
import Derived.Test.YtofdfcngmkkfdaaProg
import Derived.Deep.DeepFit
import Derived.Deep.Strs
import Derived.Test.YtofdfcngmkkfdaaHoJ
set_option linter.unusedVariables false
set_option linter.unusedSimpArgs false
namespace Go.Proofs.Ytofdfcngmkkfdaa
open Go Go.RowKit Go.Shelf

open Go.ChangeShapes Go.WideShapes Go.ChangeAt in
set_option maxRecDepth 100000 in
theorem Open.hold {H : Type} {enc : TypeId × Value → H} {W : World} {b0 : Nat} {v : Value} {d : DataW H} {p : List MemPlace} (hv : Value.okWide Try.prog W .any b0 47 v)
    (h : DataW.Trod enc Try.prog W 0 (fun _ => true) true 47 v d p) : ∃ x : Ru, v = .agg #[.string x.1, .string x.2] ∧ x.1.size ≤ maxLen ∧ x.2.size ≤ maxLen := by
  obtain ⟨cs, rfl, _⟩ := okWide_struct Try.underlying47 hv
  obtain ⟨fuel, hf⟩ := h
  have hcell : Try.prog.cellsOf 47 = 2 := by kernel_rfl
  have hcell1 : Try.prog.cellsOf 9 = 1 := by kernel_rfl
  obtain ⟨y0, y1, n, -, hlen, h0, h1⟩ := trod_struct2 Try.underlying47 hf
  simp only [hcell, hcell1, Value.cells] at hlen h0 h1
  obtain ⟨a, ha, -, wa⟩ := DataW.trod_string Try.underlying9 h0
  obtain ⟨b, hb, -, wb⟩ := DataW.trod_string Try.underlying9 h1
  refine ⟨(a, b), ?_, wa, wb⟩
  obtain ⟨l⟩ := cs
  match l, hlen with
  | [c0, c1], _ =>
    simp at ha hb
    subst ha hb
    rfl
abbrev Ev := ByteArray × List ByteArray × Value × Int
open Go.ChangeShapes Go.WideShapes Go.ChangeAt in
set_option maxRecDepth 100000 in
theorem Open.env {H : Type} {enc : TypeId × Value → H} {W : World} {b0 : Nat} {v : Value} {d : DataW H} {p : List MemPlace} (hv : Value.okWide Try.prog W .any b0 33 v)
    (h : DataW.Trod enc Try.prog W 0 (fun _ => true) true 33 v d p) : ∃ x : Ev, v = .agg #[.string x.1, x.2.2.1, .int .i64 x.2.2.2] ∧ TV W x.2.2.1 x.2.1 ∧ x.1.size ≤ maxLen ∧ ∀ s ∈ x.2.1, s.size ≤ maxLen := by
  obtain ⟨cs, rfl, _⟩ := okWide_struct Try.underlying33 hv
  obtain ⟨fuel, hf⟩ := h
  have hcell : Try.prog.cellsOf 33 = 3 := by kernel_rfl
  have hcell1 : Try.prog.cellsOf 9 = 1 := by kernel_rfl
  have hcell2 : Try.prog.cellsOf 31 = 1 := by kernel_rfl
  have hcell3 : Try.prog.cellsOf 2 = 1 := by kernel_rfl
  obtain ⟨y0, y1, y2, n, -, hlen, h0, h1, h2⟩ := Deep.trod_struct3 Try.underlying33 hf
  simp only [hcell, hcell1, hcell2, hcell3, Value.cells] at hlen h0 h1 h2
  obtain ⟨a, ha, -, wa⟩ := DataW.trod_string Try.underlying9 h0
  obtain ⟨b, hb, -, wb⟩ := DataW.trod_int Try.underlying2 h2
  obtain ⟨l⟩ := cs
  match l, hlen with
  | [c0, c1, c2], _ =>
    simp at ha hb h1
    subst ha hb
    obtain ⟨ss, hs1, hs2⟩ := Open.cells_texts h1
    exact ⟨(a, ss, c1, b), rfl, hs1, wa, hs2⟩
end Go.Proofs.Ytofdfcngmkkfdaa

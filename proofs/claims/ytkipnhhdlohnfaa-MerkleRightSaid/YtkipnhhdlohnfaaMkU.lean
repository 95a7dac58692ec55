/- Plain: what is proven is taken, as the program says it. -/
import Derived.RangeFuncNested
import Derived.RangeFuncBound
import Derived.RangeFuncCalls
import Derived.RangeFuncLeaves
import Derived.Shelf.Abstract
import Derived.Shelf.RegionOpen
import Derived.WalkKit
import Derived.OwnWalkIn
import Derived.TacticsInMore
import Derived.LoopNIn
import Derived.LoopIn
import Derived.Outline
import Derived.Lib.Hide
import Derived.Lib.SliceRun
import Derived.IntWalk
import Derived.WalkLawsBesides
import Derived.WalkSpells
import Derived.Laws.BitsAllLaws
import Derived.Lib.ConvBytes
import Derived.Maps.AppendAt
import Derived.Lib.AppendStr
import Derived.Lib.SlBytesConst
import Derived.Laws.AppendOwnNone
import Derived.Laws.OwnMore
import Derived.Laws.BytesArg
import Derived.Deep.RegionHeld3
import Derived.BigQuiet
import Derived.Deep.RegionLaw
import Derived.Deep.QuietTactic
import Derived.Lib.OthersKept
import Derived.Test.YtkipnhhdlohnfaaProg
import Derived.Deep.DeepFit
import Derived.Test.YtkipnhhdlohnfaaMkT
set_option linter.unusedVariables false
set_option linter.unusedSimpArgs false
namespace Go.Proofs.Ytkipnhhdlohnfaa
open Go Go.RowKit Go.Shelf

theorem verB_right (ls : List (List UInt8)) (i : Nat) (x : List UInt8) (hx : ls[i]? = some x) : verB (rootL ls) ls.length i x (wayL ls i) = true := by
  have hi : i < ls.length := (List.getElem?_eq_some_iff.1 hx).1
  obtain ⟨e1, e2⟩ := way_right ls.length ls i x (Nat.le_refl _) hx
  unfold verB
  simp only [Int.toNat_natCast]
  rw [if_pos ⟨by omega, by omega, e1⟩, e2]
  simp
theorem grB_right (ls : List (List UInt8)) (m : Nat) (h1 : 1 ≤ m) (h2 : m ≤ ls.length) (hM : ls.length ≤ 1000) : grB (rootL (ls.take m)) (rootL ls) m ls.length (growL ls m true) = true := by
  obtain ⟨rt, hrt⟩ : ∃ r, (gR ls.length m true).1 = r := ⟨_, rfl⟩
  obtain ⟨wh, hwh⟩ : ∃ r, (gR ls.length m true).2 = r := ⟨_, rfl⟩
  obtain ⟨a1, a2, a3, a4⟩ := grow_right ls.length ls m true (Nat.le_refl _) hM h1 h2 wh rt (by rw [← hrt, ← hwh])
  unfold grB
  simp only [Int.toNat_natCast, hrt, hwh]
  rw [if_pos ⟨by omega, by omega⟩, if_pos ⟨by cases wh with | true => exact .inl rfl | false => exact .inr (a1 rfl), a2⟩, a4]
  simp
end Go.Proofs.Ytkipnhhdlohnfaa

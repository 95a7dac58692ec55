/- DigestJoins. -/
import Derived.RangeFuncNested
import Derived.RangeFuncBound
import Derived.RangeFuncCalls
import Derived.RangeFuncLeaves
import Derived.Shelf.Abstract
import Derived.Shelf.RegionOpen
import Derived.WalkKit
import Derived.OwnWalkIn
import Derived.TacticsInMore
import Derived.LoopNIn
import Derived.LoopIn
import Derived.Outline
import Derived.Lib.Hide
import Derived.Lib.SliceRun
import Derived.IntWalk
import Derived.WalkLawsBesides
import Derived.WalkSpells
import Derived.Laws.BitsAllLaws
import Derived.Lib.ConvBytes
import Derived.Maps.AppendAt
import Derived.Lib.AppendStr
import Derived.Lib.SlBytesConst
import Derived.Laws.AppendOwnNone
import Derived.Laws.OwnMore
import Derived.Laws.BytesArg
import Derived.Deep.RegionHeld3
import Derived.BigQuiet
import Derived.Deep.RegionLaw
import Derived.Deep.QuietTactic
import Derived.Test.YtnepmhdnkcnnmaaProg
import Derived.Test.YtnepmhdnkcnnmaaDgK
set_option linter.unusedVariables false
set_option linter.unusedSimpArgs false
namespace Go.Proofs.Ytnepmhdnkcnnmaa
open Go Go.RowKit Go.Shelf

theorem SS_lit3 (w : World) (A B C : Option Addr) (n m k c d e : Nat) (x y z : List UInt8) (t : TypeId) (hx : SB w (.slice A n c) x) (hy : SB w (.slice B m d) y) (hz : SB w (.slice C k e) z) :
    SS (w.alloc (.cells #[.slice A n c, .slice B m d, .slice C k e] t)) (.slice (some ⟨w.heap.size, 0, none⟩) 3 3) [x, y, z] := by
  have hb := (Below.refl w.heap.size w).alloc (Nat.le_refl _) (.cells #[.slice A n c, .slice B m d, .slice C k e] t)
  refine .inr ⟨_, 3, rfl, by simp, fun _ => ⟨w.heap.size, 0, rfl, fun i hi => ?_⟩⟩
  have hr := Row.new w #[.slice A n c, .slice B m d, .slice C k e] t
  have hi' : i = 0 ∨ i = 1 ∨ i = 2 := by simp at hi; omega
  rcases hi' with rfl | rfl | rfl
  · exact ⟨_, by rw [Nat.zero_add, hr.cell 0]; rfl, hx.below hb⟩
  · exact ⟨_, by rw [Nat.zero_add, hr.cell 1]; rfl, hy.below hb⟩
  · exact ⟨_, by rw [Nat.zero_add, hr.cell 2]; rfl, hz.below hb⟩
theorem SS_nil (w : World) : SS w (.slice none 0 0) [] := .inl ⟨rfl, rfl⟩
theorem SB_nil (w : World) : SB w (.slice none 0 0) [] := .inl ⟨rfl, rfl⟩

end Go.Proofs.Ytnepmhdnkcnnmaa

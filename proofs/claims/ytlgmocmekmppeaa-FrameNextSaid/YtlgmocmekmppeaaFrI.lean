/- The walk of FrameNext: the Go text returns true, and nothing that was there is written. -/
import Derived.RangeFuncNested
import Derived.RangeFuncBound
import Derived.RangeFuncCalls
import Derived.RangeFuncLeaves
import Derived.Shelf.Abstract
import Derived.Shelf.RegionOpen
import Derived.WalkKit
import Derived.OwnWalkIn
import Derived.TacticsInMore
import Derived.LoopNIn
import Derived.LoopIn
import Derived.Outline
import Derived.Lib.Hide
import Derived.Lib.SliceRun
import Derived.IntWalk
import Derived.WalkLawsBesides
import Derived.WalkSpells
import Derived.Laws.BitsAllLaws
import Derived.Lib.ConvBytes
import Derived.Maps.AppendAt
import Derived.Lib.AppendStr
import Derived.Lib.SlBytesConst
import Derived.Laws.AppendOwnNone
import Derived.Laws.OwnMore
import Derived.Laws.BytesArg
import Derived.Deep.RegionHeld3
import Derived.BigQuiet
import Derived.Deep.RegionLaw
import Derived.Deep.QuietTactic
import Derived.Test.YtlgmocmekmppeaaProg
import Derived.Test.YtlgmocmekmppeaaFrD
import Derived.Test.YtlgmocmekmppeaaFrH
set_option linter.unusedVariables false
set_option linter.unusedSimpArgs false
namespace Go.Proofs.Ytlgmocmekmppeaa
open Go Go.RowKit Go.Shelf

set_option maxRecDepth 100000 in
set_option maxHeartbeats 400000 in
theorem frameNext_walk (v : Value) (l : List UInt8) (w : World) (h : SB w v l) :
    Calls Try.prog 5 #[v] w fun e w' => e = .returned (.bool true) ∧ Below w.heap.size w w' := by
  obtain ⟨A, c, hv, -, -, -⟩ := h.form
  subst hv
  by_cases hl : l.length ≤ 2000
  · have hf : fewB [l] = true := by simp [fewB, hl]
    go_enter Try.func5, Try.ntmps5
    go_wp2_with fail
    refine (awake_any w).mono ?_
    rintro e w1 ⟨rfl, hB1⟩
    have hs1 := h.below hB1
    go_wp2_with fail
    refine (few_any _ [l] _ (SS_one hs1)).mono ?_
    rintro e w2 ⟨rfl, rfl⟩
    rw [hf]
    have hB2 := hB1.alloc hB1.size (.cells #[.slice A l.length c] 22)
    go_wp2_with fail
    refine (next_any _ l _ (by omega) (h.below hB2)).mono ?_
    rintro e w2 ⟨v1, v2, rfl, ⟨_, hx1⟩, hx2, hB3⟩
    have hB3' := hB2.trans (hB3.mono hB2.size)
    go_wp2_with fail
    refine (rnext_any _ l _ (by omega) (h.below hB3')).mono ?_
    rintro e w3 ⟨v3, v4, rfl, ⟨_, hx3⟩, hx4, hB4⟩
    have hB4' := hB3'.trans (hB4.mono hB3'.size)
    have t1 := (hx1.reads.below hB4).str
    have t2 := (hx2.below hB4).str
    have t3 := hx3.reads.str
    have t4 := hx4.str
    generalize nextB l = q at *
    go_wp2
    all_goals
      go_ret
      exact ⟨rfl, hB4'⟩
  · have hf : fewB [l] = false := by simp [fewB, hl]
    go_enter Try.func5, Try.ntmps5
    go_wp2_with fail
    refine (awake_any w).mono ?_
    rintro e w1 ⟨rfl, hB1⟩
    have hs1 := h.below hB1
    go_wp2_with fail
    refine (few_any _ [l] _ (SS_one hs1)).mono ?_
    rintro e w2 ⟨rfl, rfl⟩
    rw [hf]
    have hB2 := hB1.alloc hB1.size (.cells #[.slice A l.length c] 22)
    go_wp2
    go_ret
    exact ⟨rfl, hB2⟩
end Go.Proofs.Ytlgmocmekmppeaa

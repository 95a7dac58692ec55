/- The walks of FrameCrcs and FramePuts: the Go text returns true, and nothing that was there is written. -/
import Derived.RangeFuncNested
import Derived.RangeFuncBound
import Derived.RangeFuncCalls
import Derived.RangeFuncLeaves
import Derived.Shelf.Abstract
import Derived.Shelf.RegionOpen
import Derived.WalkKit
import Derived.OwnWalkIn
import Derived.TacticsInMore
import Derived.LoopNIn
import Derived.LoopIn
import Derived.Outline
import Derived.Lib.Hide
import Derived.IntWalk
import Derived.WalkLawsBesides
import Derived.WalkSpells
import Derived.Laws.BitsAllLaws
import Derived.Lib.ConvBytes
import Derived.Maps.AppendAt
import Derived.Lib.AppendStr
import Derived.Lib.SlBytesConst
import Derived.Laws.AppendOwnNone
import Derived.Laws.OwnMore
import Derived.Laws.BytesArg
import Derived.Test.YtlgmocmekmppeaaProg
import Derived.Test.YtlgmocmekmppeaaFrC
set_option linter.unusedVariables false
set_option linter.unusedSimpArgs false
namespace Go.Proofs.Ytlgmocmekmppeaa
open Go Go.RowKit Go.Shelf

/-- few's argument where it is called with one slice -/
theorem SS_one {w : World} {v : Value} {l : List UInt8} (h : SB w v l) : SS (w.alloc (.cells #[v] 22)) (.slice (some ⟨w.heap.size, 0, none⟩) 1 1) [l] := by
  refine .inr ⟨_, 1, rfl, by simp, fun _ => ⟨w.heap.size, 0, rfl, fun i hi => ⟨v, ?_, ?_⟩⟩⟩
  · obtain rfl : i = 0 := by simpa using hi
    have := World.alloc_heap_new w (.cells #[v] 22)
    simp only [World.cell?, this]
    rfl
  · obtain rfl : i = 0 := by simpa using hi
    exact h.below ((Below.refl _ _).alloc (Nat.le_refl _) _)

set_option maxRecDepth 100000 in
set_option maxHeartbeats 400000 in
theorem frameCrcs_walk (v : Value) (l : List UInt8) (w : World) (h : SB w v l) :
    Calls Try.prog 3 #[v] w fun e w' => e = .returned (.bool true) ∧ Below w.heap.size w w' := by
  obtain ⟨A, c, hv, -, -, -⟩ := h.form
  subst hv
  by_cases hl : l.length ≤ 2000
  · have hf : fewB [l] = true := by simp [fewB, hl]
    go_enter Try.func3, Try.ntmps3
    go_wp2_with fail
    refine (awake_any w).mono ?_
    rintro e w1 ⟨rfl, hB1⟩
    have hs1 := h.below hB1
    go_wp2_with fail
    refine (few_any _ [l] _ (SS_one hs1)).mono ?_
    rintro e w2 ⟨rfl, rfl⟩
    rw [hf]
    have hB2 := hB1.alloc hB1.size (.cells #[.slice A l.length c] 22)
    go_wp2_with fail
    refine (crc_any _ l _ (by omega) (h.below hB2)).mono ?_
    rintro e w2 ⟨rfl, rfl⟩
    go_wp2_with fail
    refine (rcrc_any _ l _ (by omega) (h.below hB2)).mono ?_
    rintro e w2 ⟨rfl, rfl⟩
    go_wp2
    go_ret
    exact ⟨rfl, hB2⟩
  · have hf : fewB [l] = false := by simp [fewB, hl]
    go_enter Try.func3, Try.ntmps3
    go_wp2_with fail
    refine (awake_any w).mono ?_
    rintro e w1 ⟨rfl, hB1⟩
    have hs1 := h.below hB1
    go_wp2_with fail
    refine (few_any _ [l] _ (SS_one hs1)).mono ?_
    rintro e w2 ⟨rfl, rfl⟩
    rw [hf]
    have hB2 := hB1.alloc hB1.size (.cells #[.slice A l.length c] 22)
    go_wp2
    go_ret
    exact ⟨rfl, hB2⟩

set_option maxRecDepth 100000 in
set_option maxHeartbeats 400000 in
theorem framePuts_walk (v : Value) (l : List UInt8) (w : World) (h : SB w v l) :
    Calls Try.prog 4 #[v] w fun e w' => e = .returned (.bool true) ∧ Below w.heap.size w w' := by
  obtain ⟨A, c, hv, -, -, -⟩ := h.form
  subst hv
  by_cases hl : l.length ≤ 2000
  · have hf : fewB [l] = true := by simp [fewB, hl]
    go_enter Try.func4, Try.ntmps4
    go_wp2_with fail
    refine (awake_any w).mono ?_
    rintro e w1 ⟨rfl, hB1⟩
    have hs1 := h.below hB1
    go_wp2_with fail
    refine (few_any _ [l] _ (SS_one hs1)).mono ?_
    rintro e w2 ⟨rfl, rfl⟩
    rw [hf]
    have hB2 := hB1.alloc hB1.size (.cells #[.slice A l.length c] 22)
    go_wp2_with fail
    refine (put_any _ l _ (by omega) (h.below hB2)).mono ?_
    rintro e w2 ⟨v2, rfl, hown2, hB3⟩
    have hB3' := hB2.trans (hB3.mono hB2.size)
    go_wp2_with fail
    refine (rput_any _ l _ (by omega) (h.below hB3')).mono ?_
    rintro e w3 ⟨v3, rfl, hown3, hB4⟩
    have hB4' := hB3'.trans (hB4.mono hB3'.size)
    have hs2 := (hown2.reads.below hB4).str
    have hs3 := hown3.reads.str
    go_wp2
    go_ret
    exact ⟨rfl, hB4'⟩
  · have hf : fewB [l] = false := by simp [fewB, hl]
    go_enter Try.func4, Try.ntmps4
    go_wp2_with fail
    refine (awake_any w).mono ?_
    rintro e w1 ⟨rfl, hB1⟩
    have hs1 := h.below hB1
    go_wp2_with fail
    refine (few_any _ [l] _ (SS_one hs1)).mono ?_
    rintro e w2 ⟨rfl, rfl⟩
    rw [hf]
    have hB2 := hB1.alloc hB1.size (.cells #[.slice A l.length c] 22)
    go_wp2
    go_ret
    exact ⟨rfl, hB2⟩
end Go.Proofs.Ytlgmocmekmppeaa

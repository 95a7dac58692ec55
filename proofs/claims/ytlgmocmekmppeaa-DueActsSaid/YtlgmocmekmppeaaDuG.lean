/- What is due: delays, and when. -/
import Derived.RangeFuncNested
import Derived.RangeFuncBound
import Derived.RangeFuncCalls
import Derived.RangeFuncLeaves
import Derived.Shelf.Abstract
import Derived.Shelf.RegionOpen
import Derived.WalkKit
import Derived.OwnWalkIn
import Derived.TacticsInMore
import Derived.LoopNIn
import Derived.LoopIn
import Derived.Outline
import Derived.Lib.Hide
import Derived.Lib.SliceRun
import Derived.IntWalk
import Derived.WalkLawsBesides
import Derived.WalkSpells
import Derived.Laws.BitsAllLaws
import Derived.Lib.ConvBytes
import Derived.Maps.AppendAt
import Derived.Lib.AppendStr
import Derived.Lib.SlBytesConst
import Derived.Laws.AppendOwnNone
import Derived.Laws.OwnMore
import Derived.Laws.BytesArg
import Derived.Deep.RegionHeld3
import Derived.BigQuiet
import Derived.Deep.RegionLaw
import Derived.Deep.QuietTactic
import Derived.Test.YtlgmocmekmppeaaProg
set_option linter.unusedVariables false
set_option linter.unusedSimpArgs false
namespace Go.Proofs.Ytlgmocmekmppeaa
open Go Go.RowKit Go.Shelf

/-- how long is waited -/
def dlyL (t : Int) : Int := if t ≤ 1 then 60 else if t = 2 then 120 else if t = 3 then 240 else if t = 4 then 480 else if t = 5 then 960 else if t = 6 then 1920 else if t = 7 then 3840 else if t = 8 then 7680 else 14400
theorem dly_lo {t : Int} (h : t ≤ 1) : dlyL t = 60 := by unfold dlyL; rw [if_pos h]
theorem dly_hi {t : Int} (h : 8 < t) : dlyL t = 14400 := by
  unfold dlyL; repeat rw [if_neg (by omega)]
theorem dly_cases (t : Int) : t ≤ 1 ∨ t = 2 ∨ t = 3 ∨ t = 4 ∨ t = 5 ∨ t = 6 ∨ t = 7 ∨ t = 8 ∨ 8 < t := by omega
theorem dly_mono {t : Int} : dlyL t ≤ dlyL (t + 1) ∧ 60 ≤ dlyL t := by
  rcases dly_cases t with h | rfl | rfl | rfl | rfl | rfl | rfl | rfl | h
  · rw [dly_lo h]
    by_cases h1 : t + 1 ≤ 1
    · rw [dly_lo h1]; omega
    · obtain rfl : t = 1 := by omega
      decide
  all_goals first | decide | (rw [dly_hi h, dly_hi (by omega)]; decide)

set_option maxRecDepth 100000 in
set_option maxHeartbeats 1000000 in
theorem delay_any (t : Int) (w : World) (h : -9223372036854775808 ≤ t ∧ t ≤ 9223372036854775807) :
    Calls Try.prog 35 #[.int .i64 t] w fun e w' => e = .returned (.int .i64 (dlyL t)) ∧ w = w' := by
  obtain ⟨h1, h2⟩ := h
  rcases dly_cases t with h | rfl | rfl | rfl | rfl | rfl | rfl | rfl | h
  · rw [dly_lo h]
    by_cases h1 : t < 1
    · go_enter Try.func35, Try.ntmps35
      go_wp2
      all_goals first
        | (exfalso; rename_i hh; rw [if_pos h1] at hh; revert hh; decide +kernel)
        | (go_ret; exact ⟨rfl, rfl⟩)
    · obtain rfl : t = 1 := by omega
      go_enter Try.func35, Try.ntmps35
      go_wp2
      all_goals first
        | (exfalso; rename_i hh; revert hh; decide +kernel)
        | (go_ret; exact ⟨rfl, rfl⟩)
  all_goals first
    | (rw [dly_hi h]
       go_enter Try.func35, Try.ntmps35
       go_wp2
       go_ret
       exact ⟨rfl, rfl⟩)
    | (go_enter Try.func35, Try.ntmps35
       go_wp2
       all_goals first
        | (exfalso; rename_i hh; revert hh; decide +kernel)
        | (go_ret; exact ⟨rfl, rfl⟩))

/-- what time it is then -/
def aftL (n d : Int) : Int := if 9223372036854775807 - max d 0 < n then 9223372036854775807 else n + max d 0
set_option maxRecDepth 100000 in
set_option maxHeartbeats 1000000 in
theorem after_any (n d : Int) (w : World) (h : -9223372036854775808 ≤ n ∧ n ≤ 9223372036854775807) (k : -9223372036854775808 ≤ d ∧ d ≤ 9223372036854775807) :
    Calls Try.prog 37 #[.int .i64 n, .int .i64 d] w fun e w' => e = .returned (.int .i64 (aftL n d)) ∧ w = w' := by
  obtain ⟨h1, h2⟩ := h
  obtain ⟨k1, k2⟩ := k
  obtain ⟨R, hR⟩ : ∃ R, aftL n d = R := ⟨_, rfl⟩
  rw [hR]
  have HR := Lib.hid hR
  clear hR
  go_enter Try.func37, Try.ntmps37
  go_wp2
  all_goals
    go_ret
    refine ⟨congrArg (fun z => Ending.returned (Value.int IntKind.i64 z)) ?_, rfl⟩
    rw [← HR.out]
    unfold aftL
    first | (rw [if_pos (by omega)]; omega) | (rw [if_pos (by omega)]) | (rw [if_neg (by omega)]; omega)
set_option maxRecDepth 100000 in
set_option maxHeartbeats 1000000 in
theorem until_any (n d : Int) (w : World) (h : -9223372036854775808 ≤ n ∧ n ≤ 9223372036854775807) (k : -9223372036854775808 ≤ d ∧ d ≤ 9223372036854775807) :
    Calls Try.prog 38 #[.int .i64 n, .int .i64 d] w fun e w' => e = .returned (.int .i64 (aftL n d)) ∧ w = w' := by
  obtain ⟨h1, h2⟩ := h
  obtain ⟨k1, k2⟩ := k
  obtain ⟨R, hR⟩ : ∃ R, aftL n d = R := ⟨_, rfl⟩
  rw [hR]
  have HR := Lib.hid hR
  clear hR
  by_cases hn : 0 < n
  all_goals
    go_enter Try.func38, Try.ntmps38
    go_wp2
    all_goals
      go_ret
      refine ⟨congrArg (fun z => Ending.returned (Value.int IntKind.i64 z)) ?_, rfl⟩
      rw [← HR.out]
      unfold aftL
      first | (rw [if_pos (by omega)]; omega) | (rw [if_pos (by omega)]) | (rw [if_neg (by omega)]; omega)

set_option maxRecDepth 100000 in
set_option maxHeartbeats 1000000 in
theorem rdelay_any (t : Int) (w : World) (h : -9223372036854775808 ≤ t ∧ t ≤ 9223372036854775807) :
    Calls Try.prog 36 #[.int .i64 t] w fun e w' => e = .returned (.int .i64 (dlyL t)) ∧ w = w' := by
  obtain ⟨h1, h2⟩ := h
  obtain ⟨R, hR⟩ : ∃ R, dlyL t = R := ⟨_, rfl⟩
  rw [hR]
  have HR := Lib.hid hR
  clear hR
  go_enter Try.func36, Try.ntmps36
  go_wp2
  go_loopw [3, 4] (fun q r wr => ∃ (i d : Int), q = .int .i64 d ∧ r = .int .i64 i ∧ i ≤ max t 1 ∧ (i = 1 ∧ d = 60 ∨ i = 2 ∧ d = 120 ∨ i = 3 ∧ d = 240 ∨ i = 4 ∧ d = 480 ∨ i = 5 ∧ d = 960 ∨ i = 6 ∧ d = 1920 ∨ i = 7 ∧ d = 3840 ∨ i = 8 ∧ d = 7680 ∨ i = 9 ∧ d = 15360) ∧ wr = w) (fun q r _ => 20 - (intOf r).toNat)
  case atStart => exact ⟨1, 60, rfl, rfl, by omega, by omega, rfl⟩
  case round =>
    obtain ⟨i, d, rfl, rfl, him, hd, rfl⟩ := hrel
    by_cases hlt : i < t
    · by_cases h9 : i = 9
      · obtain rfl : d = 15360 := by omega
        subst h9
        go_wp2
        go_ret
        refine ⟨congrArg (fun z => Ending.returned (Value.int IntKind.i64 z)) ?_, rfl⟩
        rw [← HR.out, dly_hi (by omega)]
      · have hd1 : d < 14400 := by omega
        have hd2 : 0 < d := by omega
        have hi1 : 0 < i ∧ i < 10 := by omega
        obtain ⟨hi1, hi2⟩ := hi1
        have Hd := Lib.hid hd
        clear hd
        go_wp2
        go_roundw
        case rel =>
          have hd := Hd.out
          have hz : i + 1 = 2 ∧ d * 2 = 120 ∨ i + 1 = 3 ∧ d * 2 = 240 ∨ i + 1 = 4 ∧ d * 2 = 480 ∨ i + 1 = 5 ∧ d * 2 = 960 ∨ i + 1 = 6 ∧ d * 2 = 1920 ∨ i + 1 = 7 ∧ d * 2 = 3840 ∨ i + 1 = 8 ∧ d * 2 = 7680 ∨ i + 1 = 9 ∧ d * 2 = 15360 := by
            rcases hd with ⟨rfl, rfl⟩ | ⟨rfl, rfl⟩ | ⟨rfl, rfl⟩ | ⟨rfl, rfl⟩ | ⟨rfl, rfl⟩ | ⟨rfl, rfl⟩ | ⟨rfl, rfl⟩ | ⟨rfl, rfl⟩ | ⟨rfl, rfl⟩ <;> first | decide | omega
          exact ⟨i + 1, d * 2, rfl, rfl, by omega, .inr hz, trivial⟩
        case measure => simp [intOf]; omega
    · have hdd : dlyL t = min d 14400 := by
        rcases hd with ⟨rfl, rfl⟩ | ⟨rfl, rfl⟩ | ⟨rfl, rfl⟩ | ⟨rfl, rfl⟩ | ⟨rfl, rfl⟩ | ⟨rfl, rfl⟩ | ⟨rfl, rfl⟩ | ⟨rfl, rfl⟩ | ⟨rfl, rfl⟩
        · rw [dly_lo (by omega)]; rfl
        · obtain rfl : t = 2 := by omega
          decide
        · obtain rfl : t = 3 := by omega
          decide
        · obtain rfl : t = 4 := by omega
          decide
        · obtain rfl : t = 5 := by omega
          decide
        · obtain rfl : t = 6 := by omega
          decide
        · obtain rfl : t = 7 := by omega
          decide
        · obtain rfl : t = 8 := by omega
          decide
        · rw [dly_hi (by omega)]; decide
      have HD := Lib.hid hdd
      clear hdd hd
      go_wp2
      all_goals
        go_ret
        refine ⟨congrArg (fun z => Ending.returned (Value.int IntKind.i64 z)) ?_, rfl⟩
        rw [← HR.out, HD.out]
        omega
end Go.Proofs.Ytlgmocmekmppeaa

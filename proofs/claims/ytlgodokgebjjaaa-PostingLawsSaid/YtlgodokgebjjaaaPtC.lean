/- label. -/
import Derived.RangeFuncNested
import Derived.RangeFuncBound
import Derived.RangeFuncCalls
import Derived.RangeFuncLeaves
import Derived.Shelf.Abstract
import Derived.Shelf.RegionOpen
import Derived.WalkKit
import Derived.OwnWalkIn
import Derived.TacticsInMore
import Derived.LoopNIn
import Derived.LoopIn
import Derived.Outline
import Derived.Lib.Hide
import Derived.Lib.SliceRun
import Derived.IntWalk
import Derived.WalkLawsBesides
import Derived.WalkSpells
import Derived.Laws.BitsAllLaws
import Derived.Lib.ConvBytes
import Derived.Maps.AppendAt
import Derived.Lib.AppendStr
import Derived.Lib.SlBytesConst
import Derived.Laws.AppendOwnNone
import Derived.Laws.OwnMore
import Derived.Laws.BytesArg
import Derived.Deep.RegionHeld3
import Derived.BigQuiet
import Derived.Deep.RegionLaw
import Derived.Deep.QuietTactic
import Derived.Lib.OthersKept
import Derived.Test.YtlgodokgebjjaaaProg
import Derived.Deep.DeepFit
import Derived.Test.YtlgodokgebjjaaaPtB
set_option linter.unusedVariables false
set_option linter.unusedSimpArgs false
namespace Go.Proofs.Ytlgodokgebjjaaa
open Go Go.RowKit Go.Shelf

def lbN (c : Nat) : Bool := wordN c || c == 45
theorem kindN_cases (c : Nat) : (kindN c = 2 ∧ wordN c = true) ∨ (kindN c ≠ 2 ∧ wordN c = false) := by
  unfold kindN
  cases wordN c
  · right; refine ⟨?_, rfl⟩; rw [if_neg (by decide)]; split <;> decide
  · left; exact ⟨by rw [if_pos rfl], rfl⟩
set_option maxHeartbeats 2000000 in
set_option maxRecDepth 100000 in
theorem label_loop (s : ByteArray) (hm : s.size ≤ maxLen) (h0 : 1 ≤ s.size) (h63 : s.size ≤ 63) (h1 : gb (bl s) 0 ≠ 45) (h2 : gb (bl s) (s.size - 1) ≠ 45) (w : World) :
    Calls Try.prog 66 #[.string s] w fun e w' => e = .returned (.bool (ofN lbN (bl s))) ∧ w' = w := by
  unfold maxLen at hm
  obtain ⟨r, hr⟩ : ∃ r, ofN lbN (bl s) = r := ⟨_, rfl⟩
  have HR := Lib.hid hr
  rw [hr]
  clear hr
  have g0 := bl_get s 0 (by omega)
  have g1 := bl_get s (s.size - 1) (by omega)
  obtain ⟨a0, e0⟩ : ∃ a, gb (bl s) 0 = a := ⟨_, rfl⟩
  obtain ⟨a1, e1⟩ : ∃ a, gb (bl s) (s.size - 1) = a := ⟨_, rfl⟩
  rw [e0] at g0 h1
  rw [e1] at g1 h2
  have d0 : (s.toList == []) = false := by
    rw [toList_bl, beq_eq_false_iff_ne]; intro e; have := congrArg List.length e; rw [bl_len, List.length_nil] at this; omega
  have d0' : s.toList.isEmpty = false := by
    rw [toList_bl, List.isEmpty_eq_false_iff]; intro e; have := congrArg List.length e; rw [bl_len, List.length_nil] at this; omega
  have d1 : decide (63 < s.size) = false := by simp; omega
  have d2 : decide ((63 : Int) < (s.size : Int)) = false := by simp; omega
  have d3 : (a0 == 45) = false := by simpa using h1
  have d4 : ((a0 : Int) == 45) = false := by simp; omega
  have d5 : (a1 == 45) = false := by simpa using h2
  have d6 : ((a1 : Int) == 45) = false := by simp; omega
  have z1 : (0 : Int) ≤ (s.size : Int) - 1 := by omega
  have z2 : ((s.size : Int) - 1).toNat = s.size - 1 := by omega
  have z3 : (s.size : Int) - 1 < (s.size : Int) := by omega
  have z4 : 0 < s.size := by omega
  clear e0 e1
  go_enter Try.func66, Try.ntmps66
  go_wp2
  go_loop [26, 3] (fun i x => ∃ k : Nat, (i = .int .i64 (k : Int) ∧ k ≤ s.size) ∧ ofN lbN ((bl s).take k) = true) (fun i _ => s.size - (intOf i).toNat)
  case atStart => exact ⟨0, ⟨rfl, Nat.zero_le _⟩, rfl⟩
  case round =>
    clear g0 g1 h1 h2 d0 d0' d1 d2 d3 d4 d5 d6 z1 z2 z3
    obtain ⟨k, ⟨rfl, hk⟩, hl⟩ := hrel
    have HL := Lib.hid hl
    clear hl
    by_cases hlt : k < s.size
    · have hg := bl_get s k hlt
      have hsn := ofN_snoc lbN (bl s) k (by rw [bl_len]; exact hlt)
      have hno := ofN_not lbN (bl s) k (by rw [bl_len]; exact hlt)
      have hc := kindN_cases (gb (bl s) k)
      have hkn := fun w => kind_any (gb (bl s) k) (by have := gb_lt (bl s) k; omega) w
      obtain ⟨c, hcc⟩ : ∃ c, gb (bl s) k = c := ⟨_, rfl⟩
      rw [hcc] at hg hsn hno hc
      simp only [hcc] at hkn
      rw [HL.out, Bool.true_and] at hsn
      obtain ⟨kd, hkd⟩ : ∃ kd, kindN c = kd := ⟨_, rfl⟩
      simp only [hkd] at hkn hc
      have HK := Lib.hid hkn
      have HSN := Lib.hid hsn
      have HNO := Lib.hid hno
      clear hkn hsn hno hcc hkd
      rcases hc with ⟨rfl, hw⟩ | ⟨hk2, hw⟩
      · have HW := Lib.hid hw
        clear hw
        go_wp2_with fail
        refine (HK.out _).mono ?_
        rintro e w' ⟨rfl, rfl⟩
        go_wp2
        go_round
        case rel => exact ⟨k + 1, ⟨by go_num, by omega⟩, by rw [HSN.out, lbN, HW.out, Bool.true_or]⟩
        case measure => simp [intOf]; omega
      · have HW := Lib.hid hw
        have e1 : (kd != 2) = true := by simpa using hk2
        clear hw hk2
        by_cases h45 : c = 45
        · subst h45
          go_wp2_with fail
          refine (HK.out _).mono ?_
          rintro e w' ⟨rfl, rfl⟩
          go_wp2
          go_round
          case rel => exact ⟨k + 1, ⟨by go_num, by omega⟩, by rw [HSN.out, lbN, HW.out]; rfl⟩
          case measure => simp [intOf]; omega
        · have e2 : (c != 45) = true := by simpa using h45
          have e3 : ((c : Int) != 45) = true := by simp; omega
          have hf : r = false := by rw [← HR.out]; exact HNO.out (by rw [lbN, HW.out, Bool.false_or]; simpa using h45)
          subst hf
          clear h45
          go_wp2_with fail
          refine (HK.out _).mono ?_
          rintro e w' ⟨rfl, rfl⟩
          go_wp2
          go_ret
          exact ⟨rfl, rfl⟩
    · have hf : r = true := by rw [← HR.out]; exact ofN_all lbN (bl s) k HL.out (by rw [bl_len]; omega)
      subst hf
      have d1 : decide (k < s.size) = false := by simpa using hlt
      go_wp2
      go_ret
      exact ⟨rfl, rfl⟩
set_option maxHeartbeats 2000000 in
set_option maxRecDepth 100000 in
/-- **label** -/
theorem label_any (s : ByteArray) (hm : s.size ≤ maxLen) (w : World) :
    Calls Try.prog 66 #[.string s] w fun e w' => e = .returned (.bool (labelB (bl s))) ∧ w' = w := by
  have hlab : labelB (bl s) = (decide (1 ≤ s.size) && decide (s.size ≤ 63) && !(gb (bl s) 0 == 45) && !(gb (bl s) (s.size - 1) == 45) && ofN lbN (bl s)) := by unfold labelB; rw [bl_len]; rfl
  by_cases h0 : 1 ≤ s.size
  · by_cases h63 : s.size ≤ 63
    · by_cases h1 : gb (bl s) 0 = 45
      · rw [hlab, h1]
        simp only [beq_self_eq_true, Bool.not_true, Bool.and_false, Bool.false_and]
        have g0 := bl_get s 0 (by omega)
        rw [h1] at g0
        have d0' : s.toList.isEmpty = false := by
          rw [toList_bl, List.isEmpty_eq_false_iff]; intro e; have := congrArg List.length e; rw [bl_len, List.length_nil] at this; omega
        have d0 : (s.toList == []) = false := by
          rw [toList_bl, beq_eq_false_iff_ne]; intro e; have := congrArg List.length e; rw [bl_len, List.length_nil] at this; omega
        have d1 : decide (63 < s.size) = false := by simp; omega
        have d2 : decide ((63 : Int) < (s.size : Int)) = false := by simp; omega
        have z4 : 0 < s.size := by omega
        clear hlab h1
        go_enter Try.func66, Try.ntmps66
        go_wp2
        go_ret
        exact ⟨rfl, rfl⟩
      · by_cases h2 : gb (bl s) (s.size - 1) = 45
        · rw [hlab, h2]
          simp only [beq_self_eq_true, Bool.not_true, Bool.and_false, Bool.false_and]
          have g0 := bl_get s 0 (by omega)
          have g1 := bl_get s (s.size - 1) (by omega)
          rw [h2] at g1
          obtain ⟨a0, e0⟩ : ∃ a, gb (bl s) 0 = a := ⟨_, rfl⟩
          rw [e0] at g0 h1
          have d0' : s.toList.isEmpty = false := by
            rw [toList_bl, List.isEmpty_eq_false_iff]; intro e; have := congrArg List.length e; rw [bl_len, List.length_nil] at this; omega
          have d0 : (s.toList == []) = false := by
            rw [toList_bl, beq_eq_false_iff_ne]; intro e; have := congrArg List.length e; rw [bl_len, List.length_nil] at this; omega
          have d1 : decide (63 < s.size) = false := by simp; omega
          have d2 : decide ((63 : Int) < (s.size : Int)) = false := by simp; omega
          have d3 : (a0 == 45) = false := by simpa using h1
          have d4 : ((a0 : Int) == 45) = false := by simp; omega
          have z1 : (0 : Int) ≤ (s.size : Int) - 1 := by omega
          have z2 : ((s.size : Int) - 1).toNat = s.size - 1 := by omega
          have z3 : (s.size : Int) - 1 < (s.size : Int) := by omega
          have z4 : 0 < s.size := by omega
          have z5 : (s.size : Int) ≤ 63 := by omega
          clear hlab h2 e0
          go_enter Try.func66, Try.ntmps66
          go_wp2
          go_ret
          exact ⟨rfl, rfl⟩
        · have e : labelB (bl s) = ofN lbN (bl s) := by rw [hlab]; simp [h0, h63, h1, h2]
          rw [e]
          exact label_loop s hm h0 h63 h1 h2 w
    · have e : labelB (bl s) = false := by rw [hlab]; simp [h63]
      rw [e]
      clear hlab e
      have d0' : s.toList.isEmpty = false := by
        rw [toList_bl, List.isEmpty_eq_false_iff]; intro e; have := congrArg List.length e; rw [bl_len, List.length_nil] at this; omega
      have d0 : (s.toList == []) = false := by
        rw [toList_bl, beq_eq_false_iff_ne]; intro e; have := congrArg List.length e; rw [bl_len, List.length_nil] at this; omega
      have d1 : decide (63 < s.size) = true := by simp; omega
      have d2 : decide ((63 : Int) < (s.size : Int)) = true := by simp; omega
      go_enter Try.func66, Try.ntmps66
      go_wp2
      go_ret
      exact ⟨rfl, rfl⟩
  · have hs : s = ⟨#[]⟩ := bl_ext (by have := bl_len s; apply List.length_eq_zero_iff.1; omega)
    subst hs
    have e : labelB (bl ⟨#[]⟩) = false := rfl
    rw [e]
    clear hlab e
    go_enter Try.func66, Try.ntmps66
    go_wp2
    go_ret
    exact ⟨rfl, rfl⟩
end Go.Proofs.Ytlgodokgebjjaaa

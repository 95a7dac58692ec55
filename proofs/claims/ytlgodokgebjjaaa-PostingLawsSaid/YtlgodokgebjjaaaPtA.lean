/- Bytes: kind, small, letter, atom; Cut at one byte. -/
import Derived.RangeFuncNested
import Derived.RangeFuncBound
import Derived.RangeFuncCalls
import Derived.RangeFuncLeaves
import Derived.Shelf.Abstract
import Derived.Shelf.RegionOpen
import Derived.WalkKit
import Derived.OwnWalkIn
import Derived.TacticsInMore
import Derived.LoopNIn
import Derived.LoopIn
import Derived.Outline
import Derived.Lib.Hide
import Derived.Lib.SliceRun
import Derived.IntWalk
import Derived.WalkLawsBesides
import Derived.WalkSpells
import Derived.Laws.BitsAllLaws
import Derived.Lib.ConvBytes
import Derived.Maps.AppendAt
import Derived.Lib.AppendStr
import Derived.Lib.SlBytesConst
import Derived.Laws.AppendOwnNone
import Derived.Laws.OwnMore
import Derived.Laws.BytesArg
import Derived.Deep.RegionHeld3
import Derived.BigQuiet
import Derived.Deep.RegionLaw
import Derived.Deep.QuietTactic
import Derived.Lib.OthersKept
import Derived.Test.YtlgodokgebjjaaaProg
import Derived.Deep.DeepFit
import Derived.Test.YtlgodokgebjjaaaShelf
import Derived.Test.YtlgodokgebjjaaaPtMath
set_option linter.unusedVariables false
set_option linter.unusedSimpArgs false
namespace Go.Proofs.Ytlgodokgebjjaaa
open Go Go.RowKit Go.Shelf

theorem ret_i64 {a b : Int} (h : a = b) : Ending.returned (.int .i64 a) = .returned (.int .i64 b) := by rw [h]
theorem ret_b {a b : Bool} (h : a = b) : Ending.returned (.bool a) = .returned (.bool b) := by rw [h]
theorem wordN_yes {c : Nat} (h : (97 ≤ c ∧ c ≤ 122) ∨ (65 ≤ c ∧ c ≤ 90) ∨ (48 ≤ c ∧ c ≤ 57)) : wordN c = true := by
  simp only [wordN, Bool.or_eq_true, decide_eq_true_eq]
  omega
theorem wordN_no {c : Nat} (h : ¬ ((97 ≤ c ∧ c ≤ 122) ∨ (65 ≤ c ∧ c ≤ 90) ∨ (48 ≤ c ∧ c ≤ 57))) : wordN c = false := by
  simp only [wordN, Bool.or_eq_false_iff, decide_eq_false_iff_not]
  omega
set_option maxHeartbeats 4000000 in
set_option maxRecDepth 100000 in
theorem kind_any (c : Nat) (h : c < 256) (w : World) :
    Calls Try.prog 68 #[.int .u8 (c : Int)] w fun e w' => e = .returned (.int .i64 (kindN c)) ∧ w' = w := by
  have hm := mark_index c h
  obtain ⟨m, hmi⟩ : ∃ m, Lib.indexByte [33, 35, 36, 37, 38, 39, 42, 43, 45, 47, 61, 63, 94, 95, 123, 124, 125, 126, 96] ((c : Int).toNat.toUInt8) = m := ⟨_, rfl⟩
  rw [hmi] at hm
  have hix := fun w => Try.strings_IndexByte ⟨#[33, 35, 36, 37, 38, 39, 42, 43, 45, 47, 61, 63, 94, 95, 123, 124, 125, 126, 96]⟩ (c : Int) w
  simp only [hmi] at hix
  have HI := Lib.hid hix
  obtain ⟨k, hk⟩ : ∃ k, kindN c = k := ⟨_, rfl⟩
  have HK := Lib.hid hk
  rw [hk]
  have HM := Lib.hid hm
  clear hm hk hmi hix
  rcases (by omega : (c < 48) ∨ (48 ≤ c ∧ c < 58) ∨ (58 ≤ c ∧ c < 65) ∨ (65 ≤ c ∧ c < 91) ∨ (91 ≤ c ∧ c < 97) ∨ (97 ≤ c ∧ c < 123) ∨ (123 ≤ c)) with hr | hr | hr | hr | hr | hr | hr
  · have dn1 : decide (97 ≤ c) = false := by simp; omega
    have dn2 : decide ((97 : Int) ≤ (c : Int)) = false := by simp; omega
    have dn3 : decide (65 ≤ c) = false := by simp; omega
    have dn4 : decide ((65 : Int) ≤ (c : Int)) = false := by simp; omega
    have dn5 : decide (48 ≤ c) = false := by simp; omega
    have dn6 : decide ((48 : Int) ≤ (c : Int)) = false := by simp; omega
    have dn7 : decide (c ≤ 122) = true := by simp; omega
    have dn8 : decide ((c : Int) ≤ 122) = true := by simp; omega
    have dn9 : decide (c ≤ 90) = true := by simp; omega
    have dn10 : decide ((c : Int) ≤ 90) = true := by simp; omega
    have dn11 : decide (c ≤ 57) = true := by simp; omega
    have dn12 : decide ((c : Int) ≤ 57) = true := by simp; omega
    go_enter Try.func68, Try.ntmps68
    go_wp2_with fail
    first
      | (go_ret
         refine ⟨ret_i64 ?_, rfl⟩
         rw [← HK.out]; unfold kindN; rw [if_pos (wordN_yes (by omega))])
      | (refine (HI.out _).mono ?_
         rintro e w' ⟨rfl, rfl⟩
         have hw := wordN_no (c := c) (by omega)
         by_cases hmm : 0 ≤ m
         · have e1 : decide (0 ≤ m) = true := by simpa using hmm
           go_wp2
           go_ret
           refine ⟨ret_i64 ?_, rfl⟩
           rw [← HK.out]; unfold kindN; rw [hw, ← HM.out, e1]; rfl
         · have e1 : decide (0 ≤ m) = false := by simpa using hmm
           go_wp2
           go_ret
           refine ⟨ret_i64 ?_, rfl⟩
           rw [← HK.out]; unfold kindN; rw [hw, ← HM.out, e1]; rfl)
  · have dn1 : decide (97 ≤ c) = false := by simp; omega
    have dn2 : decide ((97 : Int) ≤ (c : Int)) = false := by simp; omega
    have dn3 : decide (65 ≤ c) = false := by simp; omega
    have dn4 : decide ((65 : Int) ≤ (c : Int)) = false := by simp; omega
    have dn5 : decide (48 ≤ c) = true := by simp; omega
    have dn6 : decide ((48 : Int) ≤ (c : Int)) = true := by simp; omega
    have dn7 : decide (c ≤ 122) = true := by simp; omega
    have dn8 : decide ((c : Int) ≤ 122) = true := by simp; omega
    have dn9 : decide (c ≤ 90) = true := by simp; omega
    have dn10 : decide ((c : Int) ≤ 90) = true := by simp; omega
    have dn11 : decide (c ≤ 57) = true := by simp; omega
    have dn12 : decide ((c : Int) ≤ 57) = true := by simp; omega
    go_enter Try.func68, Try.ntmps68
    go_wp2_with fail
    first
      | (go_ret
         refine ⟨ret_i64 ?_, rfl⟩
         rw [← HK.out]; unfold kindN; rw [if_pos (wordN_yes (by omega))])
      | (refine (HI.out _).mono ?_
         rintro e w' ⟨rfl, rfl⟩
         have hw := wordN_no (c := c) (by omega)
         by_cases hmm : 0 ≤ m
         · have e1 : decide (0 ≤ m) = true := by simpa using hmm
           go_wp2
           go_ret
           refine ⟨ret_i64 ?_, rfl⟩
           rw [← HK.out]; unfold kindN; rw [hw, ← HM.out, e1]; rfl
         · have e1 : decide (0 ≤ m) = false := by simpa using hmm
           go_wp2
           go_ret
           refine ⟨ret_i64 ?_, rfl⟩
           rw [← HK.out]; unfold kindN; rw [hw, ← HM.out, e1]; rfl)
  · have dn1 : decide (97 ≤ c) = false := by simp; omega
    have dn2 : decide ((97 : Int) ≤ (c : Int)) = false := by simp; omega
    have dn3 : decide (65 ≤ c) = false := by simp; omega
    have dn4 : decide ((65 : Int) ≤ (c : Int)) = false := by simp; omega
    have dn5 : decide (48 ≤ c) = true := by simp; omega
    have dn6 : decide ((48 : Int) ≤ (c : Int)) = true := by simp; omega
    have dn7 : decide (c ≤ 122) = true := by simp; omega
    have dn8 : decide ((c : Int) ≤ 122) = true := by simp; omega
    have dn9 : decide (c ≤ 90) = true := by simp; omega
    have dn10 : decide ((c : Int) ≤ 90) = true := by simp; omega
    have dn11 : decide (c ≤ 57) = false := by simp; omega
    have dn12 : decide ((c : Int) ≤ 57) = false := by simp; omega
    go_enter Try.func68, Try.ntmps68
    go_wp2_with fail
    first
      | (go_ret
         refine ⟨ret_i64 ?_, rfl⟩
         rw [← HK.out]; unfold kindN; rw [if_pos (wordN_yes (by omega))])
      | (refine (HI.out _).mono ?_
         rintro e w' ⟨rfl, rfl⟩
         have hw := wordN_no (c := c) (by omega)
         by_cases hmm : 0 ≤ m
         · have e1 : decide (0 ≤ m) = true := by simpa using hmm
           go_wp2
           go_ret
           refine ⟨ret_i64 ?_, rfl⟩
           rw [← HK.out]; unfold kindN; rw [hw, ← HM.out, e1]; rfl
         · have e1 : decide (0 ≤ m) = false := by simpa using hmm
           go_wp2
           go_ret
           refine ⟨ret_i64 ?_, rfl⟩
           rw [← HK.out]; unfold kindN; rw [hw, ← HM.out, e1]; rfl)
  · have dn1 : decide (97 ≤ c) = false := by simp; omega
    have dn2 : decide ((97 : Int) ≤ (c : Int)) = false := by simp; omega
    have dn3 : decide (65 ≤ c) = true := by simp; omega
    have dn4 : decide ((65 : Int) ≤ (c : Int)) = true := by simp; omega
    have dn5 : decide (48 ≤ c) = true := by simp; omega
    have dn6 : decide ((48 : Int) ≤ (c : Int)) = true := by simp; omega
    have dn7 : decide (c ≤ 122) = true := by simp; omega
    have dn8 : decide ((c : Int) ≤ 122) = true := by simp; omega
    have dn9 : decide (c ≤ 90) = true := by simp; omega
    have dn10 : decide ((c : Int) ≤ 90) = true := by simp; omega
    have dn11 : decide (c ≤ 57) = false := by simp; omega
    have dn12 : decide ((c : Int) ≤ 57) = false := by simp; omega
    go_enter Try.func68, Try.ntmps68
    go_wp2_with fail
    first
      | (go_ret
         refine ⟨ret_i64 ?_, rfl⟩
         rw [← HK.out]; unfold kindN; rw [if_pos (wordN_yes (by omega))])
      | (refine (HI.out _).mono ?_
         rintro e w' ⟨rfl, rfl⟩
         have hw := wordN_no (c := c) (by omega)
         by_cases hmm : 0 ≤ m
         · have e1 : decide (0 ≤ m) = true := by simpa using hmm
           go_wp2
           go_ret
           refine ⟨ret_i64 ?_, rfl⟩
           rw [← HK.out]; unfold kindN; rw [hw, ← HM.out, e1]; rfl
         · have e1 : decide (0 ≤ m) = false := by simpa using hmm
           go_wp2
           go_ret
           refine ⟨ret_i64 ?_, rfl⟩
           rw [← HK.out]; unfold kindN; rw [hw, ← HM.out, e1]; rfl)
  · have dn1 : decide (97 ≤ c) = false := by simp; omega
    have dn2 : decide ((97 : Int) ≤ (c : Int)) = false := by simp; omega
    have dn3 : decide (65 ≤ c) = true := by simp; omega
    have dn4 : decide ((65 : Int) ≤ (c : Int)) = true := by simp; omega
    have dn5 : decide (48 ≤ c) = true := by simp; omega
    have dn6 : decide ((48 : Int) ≤ (c : Int)) = true := by simp; omega
    have dn7 : decide (c ≤ 122) = true := by simp; omega
    have dn8 : decide ((c : Int) ≤ 122) = true := by simp; omega
    have dn9 : decide (c ≤ 90) = false := by simp; omega
    have dn10 : decide ((c : Int) ≤ 90) = false := by simp; omega
    have dn11 : decide (c ≤ 57) = false := by simp; omega
    have dn12 : decide ((c : Int) ≤ 57) = false := by simp; omega
    go_enter Try.func68, Try.ntmps68
    go_wp2_with fail
    first
      | (go_ret
         refine ⟨ret_i64 ?_, rfl⟩
         rw [← HK.out]; unfold kindN; rw [if_pos (wordN_yes (by omega))])
      | (refine (HI.out _).mono ?_
         rintro e w' ⟨rfl, rfl⟩
         have hw := wordN_no (c := c) (by omega)
         by_cases hmm : 0 ≤ m
         · have e1 : decide (0 ≤ m) = true := by simpa using hmm
           go_wp2
           go_ret
           refine ⟨ret_i64 ?_, rfl⟩
           rw [← HK.out]; unfold kindN; rw [hw, ← HM.out, e1]; rfl
         · have e1 : decide (0 ≤ m) = false := by simpa using hmm
           go_wp2
           go_ret
           refine ⟨ret_i64 ?_, rfl⟩
           rw [← HK.out]; unfold kindN; rw [hw, ← HM.out, e1]; rfl)
  · have dn1 : decide (97 ≤ c) = true := by simp; omega
    have dn2 : decide ((97 : Int) ≤ (c : Int)) = true := by simp; omega
    have dn3 : decide (65 ≤ c) = true := by simp; omega
    have dn4 : decide ((65 : Int) ≤ (c : Int)) = true := by simp; omega
    have dn5 : decide (48 ≤ c) = true := by simp; omega
    have dn6 : decide ((48 : Int) ≤ (c : Int)) = true := by simp; omega
    have dn7 : decide (c ≤ 122) = true := by simp; omega
    have dn8 : decide ((c : Int) ≤ 122) = true := by simp; omega
    have dn9 : decide (c ≤ 90) = false := by simp; omega
    have dn10 : decide ((c : Int) ≤ 90) = false := by simp; omega
    have dn11 : decide (c ≤ 57) = false := by simp; omega
    have dn12 : decide ((c : Int) ≤ 57) = false := by simp; omega
    go_enter Try.func68, Try.ntmps68
    go_wp2_with fail
    first
      | (go_ret
         refine ⟨ret_i64 ?_, rfl⟩
         rw [← HK.out]; unfold kindN; rw [if_pos (wordN_yes (by omega))])
      | (refine (HI.out _).mono ?_
         rintro e w' ⟨rfl, rfl⟩
         have hw := wordN_no (c := c) (by omega)
         by_cases hmm : 0 ≤ m
         · have e1 : decide (0 ≤ m) = true := by simpa using hmm
           go_wp2
           go_ret
           refine ⟨ret_i64 ?_, rfl⟩
           rw [← HK.out]; unfold kindN; rw [hw, ← HM.out, e1]; rfl
         · have e1 : decide (0 ≤ m) = false := by simpa using hmm
           go_wp2
           go_ret
           refine ⟨ret_i64 ?_, rfl⟩
           rw [← HK.out]; unfold kindN; rw [hw, ← HM.out, e1]; rfl)
  · have dn1 : decide (97 ≤ c) = true := by simp; omega
    have dn2 : decide ((97 : Int) ≤ (c : Int)) = true := by simp; omega
    have dn3 : decide (65 ≤ c) = true := by simp; omega
    have dn4 : decide ((65 : Int) ≤ (c : Int)) = true := by simp; omega
    have dn5 : decide (48 ≤ c) = true := by simp; omega
    have dn6 : decide ((48 : Int) ≤ (c : Int)) = true := by simp; omega
    have dn7 : decide (c ≤ 122) = false := by simp; omega
    have dn8 : decide ((c : Int) ≤ 122) = false := by simp; omega
    have dn9 : decide (c ≤ 90) = false := by simp; omega
    have dn10 : decide ((c : Int) ≤ 90) = false := by simp; omega
    have dn11 : decide (c ≤ 57) = false := by simp; omega
    have dn12 : decide ((c : Int) ≤ 57) = false := by simp; omega
    go_enter Try.func68, Try.ntmps68
    go_wp2_with fail
    first
      | (go_ret
         refine ⟨ret_i64 ?_, rfl⟩
         rw [← HK.out]; unfold kindN; rw [if_pos (wordN_yes (by omega))])
      | (refine (HI.out _).mono ?_
         rintro e w' ⟨rfl, rfl⟩
         have hw := wordN_no (c := c) (by omega)
         by_cases hmm : 0 ≤ m
         · have e1 : decide (0 ≤ m) = true := by simpa using hmm
           go_wp2
           go_ret
           refine ⟨ret_i64 ?_, rfl⟩
           rw [← HK.out]; unfold kindN; rw [hw, ← HM.out, e1]; rfl
         · have e1 : decide (0 ≤ m) = false := by simpa using hmm
           go_wp2
           go_ret
           refine ⟨ret_i64 ?_, rfl⟩
           rw [← HK.out]; unfold kindN; rw [hw, ← HM.out, e1]; rfl)
set_option maxHeartbeats 4000000 in
set_option maxRecDepth 100000 in
theorem letter_any (c : Nat) (h : c < 256) (w : World) :
    Calls Try.prog 73 #[.int .u8 (c : Int)] w fun e w' => e = .returned (.bool (wordN c)) ∧ w' = w := by
  rcases (by omega : (c < 48) ∨ (48 ≤ c ∧ c < 58) ∨ (58 ≤ c ∧ c < 65) ∨ (65 ≤ c ∧ c < 91) ∨ (91 ≤ c ∧ c < 97) ∨ (97 ≤ c ∧ c < 123) ∨ (123 ≤ c)) with hr | hr | hr | hr | hr | hr | hr
  · have dn1 : decide (97 ≤ c) = false := by simp; omega
    have dn2 : decide ((97 : Int) ≤ (c : Int)) = false := by simp; omega
    have dn3 : decide (65 ≤ c) = false := by simp; omega
    have dn4 : decide ((65 : Int) ≤ (c : Int)) = false := by simp; omega
    have dn5 : decide (48 ≤ c) = false := by simp; omega
    have dn6 : decide ((48 : Int) ≤ (c : Int)) = false := by simp; omega
    have dn7 : decide (c ≤ 122) = true := by simp; omega
    have dn8 : decide ((c : Int) ≤ 122) = true := by simp; omega
    have dn9 : decide (c ≤ 90) = true := by simp; omega
    have dn10 : decide ((c : Int) ≤ 90) = true := by simp; omega
    have dn11 : decide (c ≤ 57) = true := by simp; omega
    have dn12 : decide ((c : Int) ≤ 57) = true := by simp; omega
    go_enter Try.func73, Try.ntmps73
    go_wp2
    go_ret
    exact ⟨ret_b (by first | rw [wordN_yes (by omega)] | rw [wordN_no (by omega)]), rfl⟩
  · have dn1 : decide (97 ≤ c) = false := by simp; omega
    have dn2 : decide ((97 : Int) ≤ (c : Int)) = false := by simp; omega
    have dn3 : decide (65 ≤ c) = false := by simp; omega
    have dn4 : decide ((65 : Int) ≤ (c : Int)) = false := by simp; omega
    have dn5 : decide (48 ≤ c) = true := by simp; omega
    have dn6 : decide ((48 : Int) ≤ (c : Int)) = true := by simp; omega
    have dn7 : decide (c ≤ 122) = true := by simp; omega
    have dn8 : decide ((c : Int) ≤ 122) = true := by simp; omega
    have dn9 : decide (c ≤ 90) = true := by simp; omega
    have dn10 : decide ((c : Int) ≤ 90) = true := by simp; omega
    have dn11 : decide (c ≤ 57) = true := by simp; omega
    have dn12 : decide ((c : Int) ≤ 57) = true := by simp; omega
    go_enter Try.func73, Try.ntmps73
    go_wp2
    go_ret
    exact ⟨ret_b (by first | rw [wordN_yes (by omega)] | rw [wordN_no (by omega)]), rfl⟩
  · have dn1 : decide (97 ≤ c) = false := by simp; omega
    have dn2 : decide ((97 : Int) ≤ (c : Int)) = false := by simp; omega
    have dn3 : decide (65 ≤ c) = false := by simp; omega
    have dn4 : decide ((65 : Int) ≤ (c : Int)) = false := by simp; omega
    have dn5 : decide (48 ≤ c) = true := by simp; omega
    have dn6 : decide ((48 : Int) ≤ (c : Int)) = true := by simp; omega
    have dn7 : decide (c ≤ 122) = true := by simp; omega
    have dn8 : decide ((c : Int) ≤ 122) = true := by simp; omega
    have dn9 : decide (c ≤ 90) = true := by simp; omega
    have dn10 : decide ((c : Int) ≤ 90) = true := by simp; omega
    have dn11 : decide (c ≤ 57) = false := by simp; omega
    have dn12 : decide ((c : Int) ≤ 57) = false := by simp; omega
    go_enter Try.func73, Try.ntmps73
    go_wp2
    go_ret
    exact ⟨ret_b (by first | rw [wordN_yes (by omega)] | rw [wordN_no (by omega)]), rfl⟩
  · have dn1 : decide (97 ≤ c) = false := by simp; omega
    have dn2 : decide ((97 : Int) ≤ (c : Int)) = false := by simp; omega
    have dn3 : decide (65 ≤ c) = true := by simp; omega
    have dn4 : decide ((65 : Int) ≤ (c : Int)) = true := by simp; omega
    have dn5 : decide (48 ≤ c) = true := by simp; omega
    have dn6 : decide ((48 : Int) ≤ (c : Int)) = true := by simp; omega
    have dn7 : decide (c ≤ 122) = true := by simp; omega
    have dn8 : decide ((c : Int) ≤ 122) = true := by simp; omega
    have dn9 : decide (c ≤ 90) = true := by simp; omega
    have dn10 : decide ((c : Int) ≤ 90) = true := by simp; omega
    have dn11 : decide (c ≤ 57) = false := by simp; omega
    have dn12 : decide ((c : Int) ≤ 57) = false := by simp; omega
    go_enter Try.func73, Try.ntmps73
    go_wp2
    go_ret
    exact ⟨ret_b (by first | rw [wordN_yes (by omega)] | rw [wordN_no (by omega)]), rfl⟩
  · have dn1 : decide (97 ≤ c) = false := by simp; omega
    have dn2 : decide ((97 : Int) ≤ (c : Int)) = false := by simp; omega
    have dn3 : decide (65 ≤ c) = true := by simp; omega
    have dn4 : decide ((65 : Int) ≤ (c : Int)) = true := by simp; omega
    have dn5 : decide (48 ≤ c) = true := by simp; omega
    have dn6 : decide ((48 : Int) ≤ (c : Int)) = true := by simp; omega
    have dn7 : decide (c ≤ 122) = true := by simp; omega
    have dn8 : decide ((c : Int) ≤ 122) = true := by simp; omega
    have dn9 : decide (c ≤ 90) = false := by simp; omega
    have dn10 : decide ((c : Int) ≤ 90) = false := by simp; omega
    have dn11 : decide (c ≤ 57) = false := by simp; omega
    have dn12 : decide ((c : Int) ≤ 57) = false := by simp; omega
    go_enter Try.func73, Try.ntmps73
    go_wp2
    go_ret
    exact ⟨ret_b (by first | rw [wordN_yes (by omega)] | rw [wordN_no (by omega)]), rfl⟩
  · have dn1 : decide (97 ≤ c) = true := by simp; omega
    have dn2 : decide ((97 : Int) ≤ (c : Int)) = true := by simp; omega
    have dn3 : decide (65 ≤ c) = true := by simp; omega
    have dn4 : decide ((65 : Int) ≤ (c : Int)) = true := by simp; omega
    have dn5 : decide (48 ≤ c) = true := by simp; omega
    have dn6 : decide ((48 : Int) ≤ (c : Int)) = true := by simp; omega
    have dn7 : decide (c ≤ 122) = true := by simp; omega
    have dn8 : decide ((c : Int) ≤ 122) = true := by simp; omega
    have dn9 : decide (c ≤ 90) = false := by simp; omega
    have dn10 : decide ((c : Int) ≤ 90) = false := by simp; omega
    have dn11 : decide (c ≤ 57) = false := by simp; omega
    have dn12 : decide ((c : Int) ≤ 57) = false := by simp; omega
    go_enter Try.func73, Try.ntmps73
    go_wp2
    go_ret
    exact ⟨ret_b (by first | rw [wordN_yes (by omega)] | rw [wordN_no (by omega)]), rfl⟩
  · have dn1 : decide (97 ≤ c) = true := by simp; omega
    have dn2 : decide ((97 : Int) ≤ (c : Int)) = true := by simp; omega
    have dn3 : decide (65 ≤ c) = true := by simp; omega
    have dn4 : decide ((65 : Int) ≤ (c : Int)) = true := by simp; omega
    have dn5 : decide (48 ≤ c) = true := by simp; omega
    have dn6 : decide ((48 : Int) ≤ (c : Int)) = true := by simp; omega
    have dn7 : decide (c ≤ 122) = false := by simp; omega
    have dn8 : decide ((c : Int) ≤ 122) = false := by simp; omega
    have dn9 : decide (c ≤ 90) = false := by simp; omega
    have dn10 : decide ((c : Int) ≤ 90) = false := by simp; omega
    have dn11 : decide (c ≤ 57) = false := by simp; omega
    have dn12 : decide ((c : Int) ≤ 57) = false := by simp; omega
    go_enter Try.func73, Try.ntmps73
    go_wp2
    go_ret
    exact ⟨ret_b (by first | rw [wordN_yes (by omega)] | rw [wordN_no (by omega)]), rfl⟩
def smallN (c : Nat) : Nat := if 65 ≤ c ∧ c ≤ 90 then c + 32 else c
end Go.Proofs.Ytlgodokgebjjaaa

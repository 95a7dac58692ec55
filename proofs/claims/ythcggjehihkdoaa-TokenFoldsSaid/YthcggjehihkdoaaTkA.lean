/- letter, part, Term, Lower. -/
import Derived.RangeFuncNested
import Derived.RangeFuncBound
import Derived.RangeFuncCalls
import Derived.RangeFuncLeaves
import Derived.Shelf.Abstract
import Derived.Shelf.RegionOpen
import Derived.WalkKit
import Derived.OwnWalkIn
import Derived.TacticsInMore
import Derived.LoopNIn
import Derived.LoopIn
import Derived.Outline
import Derived.Lib.Hide
import Derived.Lib.SliceRun
import Derived.IntWalk
import Derived.WalkLawsBesides
import Derived.WalkSpells
import Derived.Laws.BitsAllLaws
import Derived.Lib.ConvBytes
import Derived.Maps.AppendAt
import Derived.Lib.AppendStr
import Derived.Lib.SlBytesConst
import Derived.Laws.AppendOwnNone
import Derived.Laws.OwnMore
import Derived.Laws.BytesArg
import Derived.Deep.RegionHeld3
import Derived.BigQuiet
import Derived.Deep.RegionLaw
import Derived.Deep.QuietTactic
import Derived.Lib.OthersKept
import Derived.Test.YthcggjehihkdoaaProg
import Derived.Deep.DeepFit
import Derived.Test.YthcggjehihkdoaaTkMath
import Derived.Test.YthcggjehihkdoaaDoB
set_option linter.unusedVariables false
set_option linter.unusedSimpArgs false
namespace Go.Proofs.Ythcggjehihkdoaa
open Go Go.RowKit Go.Shelf

/-- a text's bytes -/
def bl (s : ByteArray) : List UInt8 := s.data.toList
theorem bl_len (s : ByteArray) : (bl s).length = s.size := by rw [Lib.size_eq]; rfl
theorem bl_get (s : ByteArray) (i : Nat) (h : i < s.size) : (s[i]'h).toNat = gb (bl s) i := by
  unfold gb bl
  have h2 : i < s.data.size := h
  rw [Array.getElem?_toList, Array.getElem?_eq_getElem h2]
  rfl
theorem bl_extract (s : ByteArray) (a b : Nat) : bl (s.extract a b) = ((bl s).drop a).take (b - a) := Lib.extract_data s a b
theorem bl_mk (l : List UInt8) : bl ⟨l.toArray⟩ = l := by simp [bl]
theorem mk_bl (s : ByteArray) : (⟨(bl s).toArray⟩ : ByteArray) = s := by cases s; simp [bl]
abbrev St (l : List UInt8) : Value := .string ⟨l.toArray⟩
theorem St_bl (s : ByteArray) : St (bl s) = .string s := by unfold St; rw [mk_bl]
theorem ret_u8 {a b : Int} (h : a = b) : Ending.returned (.int .u8 a) = .returned (.int .u8 b) := by rw [h]
theorem ret_b {a b : Bool} (h : a = b) : Ending.returned (.bool a) = .returned (.bool b) := by rw [h]
set_option maxHeartbeats 4000000 in
set_option maxRecDepth 100000 in
/-- **letter** -/
theorem letter_any (c : Nat) (h : c < 256) (w : World) :
    Calls Try.prog 40 #[.int .u8 (c : Int)] w fun e w' => e = .returned (.int .u8 (ltr c : Int)) ∧ w' = w := by
  have hv : (ltr c : Int) = if 97 ≤ c ∧ c ≤ 122 ∨ 48 ≤ c ∧ c ≤ 57 then (c : Int) else if 65 ≤ c ∧ c ≤ 90 then (c : Int) + 32 else 0 := by unfold ltr; split <;> (try split) <;> simp
  rw [hv]
  rcases (by omega : (c < 48) ∨ (48 ≤ c ∧ c < 58) ∨ (58 ≤ c ∧ c < 65) ∨ (65 ≤ c ∧ c < 91) ∨ (91 ≤ c ∧ c < 97) ∨ (97 ≤ c ∧ c < 123) ∨ (123 ≤ c)) with hr | hr | hr | hr | hr | hr | hr
  · have dn1 : decide (97 ≤ c) = false := by simp; omega
    have dn2 : decide ((97 : Int) ≤ (c : Int)) = false := by simp; omega
    have dn3 : decide (65 ≤ c) = false := by simp; omega
    have dn4 : decide ((65 : Int) ≤ (c : Int)) = false := by simp; omega
    have dn5 : decide (48 ≤ c) = false := by simp; omega
    have dn6 : decide ((48 : Int) ≤ (c : Int)) = false := by simp; omega
    have dn7 : decide (c ≤ 122) = true := by simp; omega
    have dn8 : decide ((c : Int) ≤ 122) = true := by simp; omega
    have dn9 : decide (c ≤ 90) = true := by simp; omega
    have dn10 : decide ((c : Int) ≤ 90) = true := by simp; omega
    have dn11 : decide (c ≤ 57) = true := by simp; omega
    have dn12 : decide ((c : Int) ≤ 57) = true := by simp; omega
    have hh : c ≤ 255 := by omega
    first | rw [if_pos (by omega)] | rw [if_neg (by omega), if_pos (by omega)] | rw [if_neg (by omega), if_neg (by omega)]
    clear hv
    go_enter Try.func40, Try.ntmps40
    go_wp2
    go_ret
    exact ⟨by first | rfl | exact ret_u8 (show (c : Int) - 65 + 97 = (c : Int) + 32 by omega), rfl⟩
  · have dn1 : decide (97 ≤ c) = false := by simp; omega
    have dn2 : decide ((97 : Int) ≤ (c : Int)) = false := by simp; omega
    have dn3 : decide (65 ≤ c) = false := by simp; omega
    have dn4 : decide ((65 : Int) ≤ (c : Int)) = false := by simp; omega
    have dn5 : decide (48 ≤ c) = true := by simp; omega
    have dn6 : decide ((48 : Int) ≤ (c : Int)) = true := by simp; omega
    have dn7 : decide (c ≤ 122) = true := by simp; omega
    have dn8 : decide ((c : Int) ≤ 122) = true := by simp; omega
    have dn9 : decide (c ≤ 90) = true := by simp; omega
    have dn10 : decide ((c : Int) ≤ 90) = true := by simp; omega
    have dn11 : decide (c ≤ 57) = true := by simp; omega
    have dn12 : decide ((c : Int) ≤ 57) = true := by simp; omega
    have hh : c ≤ 255 := by omega
    first | rw [if_pos (by omega)] | rw [if_neg (by omega), if_pos (by omega)] | rw [if_neg (by omega), if_neg (by omega)]
    clear hv
    go_enter Try.func40, Try.ntmps40
    go_wp2
    go_ret
    exact ⟨by first | rfl | exact ret_u8 (show (c : Int) - 65 + 97 = (c : Int) + 32 by omega), rfl⟩
  · have dn1 : decide (97 ≤ c) = false := by simp; omega
    have dn2 : decide ((97 : Int) ≤ (c : Int)) = false := by simp; omega
    have dn3 : decide (65 ≤ c) = false := by simp; omega
    have dn4 : decide ((65 : Int) ≤ (c : Int)) = false := by simp; omega
    have dn5 : decide (48 ≤ c) = true := by simp; omega
    have dn6 : decide ((48 : Int) ≤ (c : Int)) = true := by simp; omega
    have dn7 : decide (c ≤ 122) = true := by simp; omega
    have dn8 : decide ((c : Int) ≤ 122) = true := by simp; omega
    have dn9 : decide (c ≤ 90) = true := by simp; omega
    have dn10 : decide ((c : Int) ≤ 90) = true := by simp; omega
    have dn11 : decide (c ≤ 57) = false := by simp; omega
    have dn12 : decide ((c : Int) ≤ 57) = false := by simp; omega
    have hh : c ≤ 255 := by omega
    first | rw [if_pos (by omega)] | rw [if_neg (by omega), if_pos (by omega)] | rw [if_neg (by omega), if_neg (by omega)]
    clear hv
    go_enter Try.func40, Try.ntmps40
    go_wp2
    go_ret
    exact ⟨by first | rfl | exact ret_u8 (show (c : Int) - 65 + 97 = (c : Int) + 32 by omega), rfl⟩
  · have dn1 : decide (97 ≤ c) = false := by simp; omega
    have dn2 : decide ((97 : Int) ≤ (c : Int)) = false := by simp; omega
    have dn3 : decide (65 ≤ c) = true := by simp; omega
    have dn4 : decide ((65 : Int) ≤ (c : Int)) = true := by simp; omega
    have dn5 : decide (48 ≤ c) = true := by simp; omega
    have dn6 : decide ((48 : Int) ≤ (c : Int)) = true := by simp; omega
    have dn7 : decide (c ≤ 122) = true := by simp; omega
    have dn8 : decide ((c : Int) ≤ 122) = true := by simp; omega
    have dn9 : decide (c ≤ 90) = true := by simp; omega
    have dn10 : decide ((c : Int) ≤ 90) = true := by simp; omega
    have dn11 : decide (c ≤ 57) = false := by simp; omega
    have dn12 : decide ((c : Int) ≤ 57) = false := by simp; omega
    have hh : c ≤ 255 := by omega
    first | rw [if_pos (by omega)] | rw [if_neg (by omega), if_pos (by omega)] | rw [if_neg (by omega), if_neg (by omega)]
    clear hv
    go_enter Try.func40, Try.ntmps40
    go_wp2
    go_ret
    exact ⟨by first | rfl | exact ret_u8 (show (c : Int) - 65 + 97 = (c : Int) + 32 by omega), rfl⟩
  · have dn1 : decide (97 ≤ c) = false := by simp; omega
    have dn2 : decide ((97 : Int) ≤ (c : Int)) = false := by simp; omega
    have dn3 : decide (65 ≤ c) = true := by simp; omega
    have dn4 : decide ((65 : Int) ≤ (c : Int)) = true := by simp; omega
    have dn5 : decide (48 ≤ c) = true := by simp; omega
    have dn6 : decide ((48 : Int) ≤ (c : Int)) = true := by simp; omega
    have dn7 : decide (c ≤ 122) = true := by simp; omega
    have dn8 : decide ((c : Int) ≤ 122) = true := by simp; omega
    have dn9 : decide (c ≤ 90) = false := by simp; omega
    have dn10 : decide ((c : Int) ≤ 90) = false := by simp; omega
    have dn11 : decide (c ≤ 57) = false := by simp; omega
    have dn12 : decide ((c : Int) ≤ 57) = false := by simp; omega
    have hh : c ≤ 255 := by omega
    first | rw [if_pos (by omega)] | rw [if_neg (by omega), if_pos (by omega)] | rw [if_neg (by omega), if_neg (by omega)]
    clear hv
    go_enter Try.func40, Try.ntmps40
    go_wp2
    go_ret
    exact ⟨by first | rfl | exact ret_u8 (show (c : Int) - 65 + 97 = (c : Int) + 32 by omega), rfl⟩
  · have dn1 : decide (97 ≤ c) = true := by simp; omega
    have dn2 : decide ((97 : Int) ≤ (c : Int)) = true := by simp; omega
    have dn3 : decide (65 ≤ c) = true := by simp; omega
    have dn4 : decide ((65 : Int) ≤ (c : Int)) = true := by simp; omega
    have dn5 : decide (48 ≤ c) = true := by simp; omega
    have dn6 : decide ((48 : Int) ≤ (c : Int)) = true := by simp; omega
    have dn7 : decide (c ≤ 122) = true := by simp; omega
    have dn8 : decide ((c : Int) ≤ 122) = true := by simp; omega
    have dn9 : decide (c ≤ 90) = false := by simp; omega
    have dn10 : decide ((c : Int) ≤ 90) = false := by simp; omega
    have dn11 : decide (c ≤ 57) = false := by simp; omega
    have dn12 : decide ((c : Int) ≤ 57) = false := by simp; omega
    have hh : c ≤ 255 := by omega
    first | rw [if_pos (by omega)] | rw [if_neg (by omega), if_pos (by omega)] | rw [if_neg (by omega), if_neg (by omega)]
    clear hv
    go_enter Try.func40, Try.ntmps40
    go_wp2
    go_ret
    exact ⟨by first | rfl | exact ret_u8 (show (c : Int) - 65 + 97 = (c : Int) + 32 by omega), rfl⟩
  · have dn1 : decide (97 ≤ c) = true := by simp; omega
    have dn2 : decide ((97 : Int) ≤ (c : Int)) = true := by simp; omega
    have dn3 : decide (65 ≤ c) = true := by simp; omega
    have dn4 : decide ((65 : Int) ≤ (c : Int)) = true := by simp; omega
    have dn5 : decide (48 ≤ c) = true := by simp; omega
    have dn6 : decide ((48 : Int) ≤ (c : Int)) = true := by simp; omega
    have dn7 : decide (c ≤ 122) = false := by simp; omega
    have dn8 : decide ((c : Int) ≤ 122) = false := by simp; omega
    have dn9 : decide (c ≤ 90) = false := by simp; omega
    have dn10 : decide ((c : Int) ≤ 90) = false := by simp; omega
    have dn11 : decide (c ≤ 57) = false := by simp; omega
    have dn12 : decide ((c : Int) ≤ 57) = false := by simp; omega
    have hh : c ≤ 255 := by omega
    first | rw [if_pos (by omega)] | rw [if_neg (by omega), if_pos (by omega)] | rw [if_neg (by omega), if_neg (by omega)]
    clear hv
    go_enter Try.func40, Try.ntmps40
    go_wp2
    go_ret
    exact ⟨by first | rfl | exact ret_u8 (show (c : Int) - 65 + 97 = (c : Int) + 32 by omega), rfl⟩
set_option maxHeartbeats 4000000 in
set_option maxRecDepth 100000 in
/-- **part** -/
theorem part_any (c : Nat) (h : c < 256) (w : World) :
    Calls Try.prog 37 #[.int .u8 (c : Int)] w fun e w' => e = .returned (.bool (partB c)) ∧ w' = w := by
  rcases (by omega : (c < 48) ∨ (48 ≤ c ∧ c < 58) ∨ (58 ≤ c ∧ c < 65) ∨ (65 ≤ c ∧ c < 91) ∨ (91 ≤ c ∧ c < 97) ∨ (97 ≤ c ∧ c < 123) ∨ (123 ≤ c)) with hr | hr | hr | hr | hr | hr | hr
  · have dn1 : decide (97 ≤ c) = false := by simp; omega
    have dn2 : decide ((97 : Int) ≤ (c : Int)) = false := by simp; omega
    have dn3 : decide (65 ≤ c) = false := by simp; omega
    have dn4 : decide ((65 : Int) ≤ (c : Int)) = false := by simp; omega
    have dn5 : decide (48 ≤ c) = false := by simp; omega
    have dn6 : decide ((48 : Int) ≤ (c : Int)) = false := by simp; omega
    have dn7 : decide (c ≤ 122) = true := by simp; omega
    have dn8 : decide ((c : Int) ≤ 122) = true := by simp; omega
    have dn9 : decide (c ≤ 90) = true := by simp; omega
    have dn10 : decide ((c : Int) ≤ 90) = true := by simp; omega
    have dn11 : decide (c ≤ 57) = true := by simp; omega
    have dn12 : decide ((c : Int) ≤ 57) = true := by simp; omega
    have hh : c ≤ 255 := by omega
    go_enter Try.func37, Try.ntmps37
    go_wp2
    go_ret
    exact ⟨ret_b (by unfold partB; symm; first | (simp; omega) | (apply Bool.eq_iff_iff.2; simp; omega)), rfl⟩
  · have dn1 : decide (97 ≤ c) = false := by simp; omega
    have dn2 : decide ((97 : Int) ≤ (c : Int)) = false := by simp; omega
    have dn3 : decide (65 ≤ c) = false := by simp; omega
    have dn4 : decide ((65 : Int) ≤ (c : Int)) = false := by simp; omega
    have dn5 : decide (48 ≤ c) = true := by simp; omega
    have dn6 : decide ((48 : Int) ≤ (c : Int)) = true := by simp; omega
    have dn7 : decide (c ≤ 122) = true := by simp; omega
    have dn8 : decide ((c : Int) ≤ 122) = true := by simp; omega
    have dn9 : decide (c ≤ 90) = true := by simp; omega
    have dn10 : decide ((c : Int) ≤ 90) = true := by simp; omega
    have dn11 : decide (c ≤ 57) = true := by simp; omega
    have dn12 : decide ((c : Int) ≤ 57) = true := by simp; omega
    have hh : c ≤ 255 := by omega
    go_enter Try.func37, Try.ntmps37
    go_wp2
    go_ret
    exact ⟨ret_b (by unfold partB; symm; first | (simp; omega) | (apply Bool.eq_iff_iff.2; simp; omega)), rfl⟩
  · have dn1 : decide (97 ≤ c) = false := by simp; omega
    have dn2 : decide ((97 : Int) ≤ (c : Int)) = false := by simp; omega
    have dn3 : decide (65 ≤ c) = false := by simp; omega
    have dn4 : decide ((65 : Int) ≤ (c : Int)) = false := by simp; omega
    have dn5 : decide (48 ≤ c) = true := by simp; omega
    have dn6 : decide ((48 : Int) ≤ (c : Int)) = true := by simp; omega
    have dn7 : decide (c ≤ 122) = true := by simp; omega
    have dn8 : decide ((c : Int) ≤ 122) = true := by simp; omega
    have dn9 : decide (c ≤ 90) = true := by simp; omega
    have dn10 : decide ((c : Int) ≤ 90) = true := by simp; omega
    have dn11 : decide (c ≤ 57) = false := by simp; omega
    have dn12 : decide ((c : Int) ≤ 57) = false := by simp; omega
    have hh : c ≤ 255 := by omega
    go_enter Try.func37, Try.ntmps37
    go_wp2
    go_ret
    exact ⟨ret_b (by unfold partB; symm; first | (simp; omega) | (apply Bool.eq_iff_iff.2; simp; omega)), rfl⟩
  · have dn1 : decide (97 ≤ c) = false := by simp; omega
    have dn2 : decide ((97 : Int) ≤ (c : Int)) = false := by simp; omega
    have dn3 : decide (65 ≤ c) = true := by simp; omega
    have dn4 : decide ((65 : Int) ≤ (c : Int)) = true := by simp; omega
    have dn5 : decide (48 ≤ c) = true := by simp; omega
    have dn6 : decide ((48 : Int) ≤ (c : Int)) = true := by simp; omega
    have dn7 : decide (c ≤ 122) = true := by simp; omega
    have dn8 : decide ((c : Int) ≤ 122) = true := by simp; omega
    have dn9 : decide (c ≤ 90) = true := by simp; omega
    have dn10 : decide ((c : Int) ≤ 90) = true := by simp; omega
    have dn11 : decide (c ≤ 57) = false := by simp; omega
    have dn12 : decide ((c : Int) ≤ 57) = false := by simp; omega
    have hh : c ≤ 255 := by omega
    go_enter Try.func37, Try.ntmps37
    go_wp2
    go_ret
    exact ⟨ret_b (by unfold partB; symm; first | (simp; omega) | (apply Bool.eq_iff_iff.2; simp; omega)), rfl⟩
  · have dn1 : decide (97 ≤ c) = false := by simp; omega
    have dn2 : decide ((97 : Int) ≤ (c : Int)) = false := by simp; omega
    have dn3 : decide (65 ≤ c) = true := by simp; omega
    have dn4 : decide ((65 : Int) ≤ (c : Int)) = true := by simp; omega
    have dn5 : decide (48 ≤ c) = true := by simp; omega
    have dn6 : decide ((48 : Int) ≤ (c : Int)) = true := by simp; omega
    have dn7 : decide (c ≤ 122) = true := by simp; omega
    have dn8 : decide ((c : Int) ≤ 122) = true := by simp; omega
    have dn9 : decide (c ≤ 90) = false := by simp; omega
    have dn10 : decide ((c : Int) ≤ 90) = false := by simp; omega
    have dn11 : decide (c ≤ 57) = false := by simp; omega
    have dn12 : decide ((c : Int) ≤ 57) = false := by simp; omega
    have hh : c ≤ 255 := by omega
    go_enter Try.func37, Try.ntmps37
    go_wp2
    go_ret
    exact ⟨ret_b (by unfold partB; symm; first | (simp; omega) | (apply Bool.eq_iff_iff.2; simp; omega)), rfl⟩
  · have dn1 : decide (97 ≤ c) = true := by simp; omega
    have dn2 : decide ((97 : Int) ≤ (c : Int)) = true := by simp; omega
    have dn3 : decide (65 ≤ c) = true := by simp; omega
    have dn4 : decide ((65 : Int) ≤ (c : Int)) = true := by simp; omega
    have dn5 : decide (48 ≤ c) = true := by simp; omega
    have dn6 : decide ((48 : Int) ≤ (c : Int)) = true := by simp; omega
    have dn7 : decide (c ≤ 122) = true := by simp; omega
    have dn8 : decide ((c : Int) ≤ 122) = true := by simp; omega
    have dn9 : decide (c ≤ 90) = false := by simp; omega
    have dn10 : decide ((c : Int) ≤ 90) = false := by simp; omega
    have dn11 : decide (c ≤ 57) = false := by simp; omega
    have dn12 : decide ((c : Int) ≤ 57) = false := by simp; omega
    have hh : c ≤ 255 := by omega
    go_enter Try.func37, Try.ntmps37
    go_wp2
    go_ret
    exact ⟨ret_b (by unfold partB; symm; first | (simp; omega) | (apply Bool.eq_iff_iff.2; simp; omega)), rfl⟩
  · have dn1 : decide (97 ≤ c) = true := by simp; omega
    have dn2 : decide ((97 : Int) ≤ (c : Int)) = true := by simp; omega
    have dn3 : decide (65 ≤ c) = true := by simp; omega
    have dn4 : decide ((65 : Int) ≤ (c : Int)) = true := by simp; omega
    have dn5 : decide (48 ≤ c) = true := by simp; omega
    have dn6 : decide ((48 : Int) ≤ (c : Int)) = true := by simp; omega
    have dn7 : decide (c ≤ 122) = false := by simp; omega
    have dn8 : decide ((c : Int) ≤ 122) = false := by simp; omega
    have dn9 : decide (c ≤ 90) = false := by simp; omega
    have dn10 : decide ((c : Int) ≤ 90) = false := by simp; omega
    have dn11 : decide (c ≤ 57) = false := by simp; omega
    have dn12 : decide ((c : Int) ≤ 57) = false := by simp; omega
    have hh : c ≤ 255 := by omega
    go_enter Try.func37, Try.ntmps37
    go_wp2
    go_ret
    exact ⟨ret_b (by unfold partB; symm; first | (simp; omega) | (apply Bool.eq_iff_iff.2; simp; omega)), rfl⟩
theorem toList_bl (s : ByteArray) : s.toList = bl s := by
  exact ByteArray.toList_eq s
theorem empty_facts (s : ByteArray) : s.toList.isEmpty = decide (s.size = 0) ∧ (s.toList == []) = decide (s.size = 0) ∧ (s.toList != []) = !decide (s.size = 0) := by
  have h := bl_len s
  rw [toList_bl]
  cases hb : bl s with
  | nil => rw [hb] at h; rw [decide_eq_true (show s.size = 0 from h.symm)]; exact ⟨rfl, rfl, rfl⟩
  | cons x t => rw [hb] at h; rw [decide_eq_false (show ¬ s.size = 0 by rw [← h]; simp)]; exact ⟨rfl, rfl, rfl⟩
theorem quiet_r {P : Program} {f : FuncId} {args : Array Value} {w : World} {n : Nat} {v : Value}
    (h : Calls P f args (w.drewN n) fun e w' => e = .returned v ∧ w' = w.drewN n) : Calls P f args (w.drewN n) fun e w'' => e = .returned v ∧ ∃ m, w'' = w.drewN m :=
  h.mono fun _ _ ⟨he, hm⟩ => ⟨he, n, hm⟩
theorem Mine.drewN {A : Nat} {a w : World} (h : Mine A a w) (n : Nat) : Mine A a (w.drewN n) := ⟨h.le, below_drewN h.bel n⟩
set_option maxHeartbeats 4000000 in
set_option maxRecDepth 100000 in
/-- **Term** -/
theorem term_any (s : ByteArray) (hm : s.size ≤ 1000000) (w : World) :
    Calls Try.prog 28 #[.string s] w fun e w' => e = .returned (.bool (termB (bl s))) ∧ Below w.heap.size w w' := by
  obtain ⟨n, hn⟩ : ∃ n, s.size = n := ⟨_, rfl⟩
  have hlen : (bl s).length = n := by rw [bl_len, hn]
  obtain ⟨q, hq⟩ : ∃ q, good (bl s) = q := ⟨_, rfl⟩
  have hte : termB (bl s) = (q && !(decide (n = 0)) && decide (n ≤ 32)) := by
    unfold termB
    rw [hq, hlen]
    congr 2
    cases hb : bl s with
    | nil => rw [hb] at hlen; simp at hlen; subst hlen; rfl
    | cons x t =>
      have : n ≠ 0 := by rw [← hlen, hb]; simp
      simp [this]
  have hq0 : Hid (good ((bl s).drop 0) = q) := hq
  rw [hte]
  have hgl := fun j => gb_lt (bl s) j
  have hst : ∀ k, k < n → good ((bl s).drop k) = (small1 (gb (bl s) k) && good ((bl s).drop (k + 1))) := by
    intro k hk
    rw [List.drop_eq_getElem_cons (by omega)]
    unfold good gb
    rw [List.all_cons, List.getElem?_eq_getElem (by omega)]
    rfl
  have hget : ∀ (k : Nat) (hk : k < s.size), ((s[k]'hk).toNat : Int) = (gb (bl s) k : Int) := fun k hk => by rw [bl_get]
  have HST := Lib.hid hst
  have HN := Lib.hid hn
  have HL := Lib.hid hlen
  clear hte hq hst hlen
  have q0 : (n : Int) ≤ 1000000 := by omega
  subst hn
  go_enter Try.func28, Try.ntmps28
  go_wp2
  go_loopw [6, 3] (fun i x wr => ∃ k : Nat, (i = .int .i64 (k : Int) ∧ k ≤ s.size) ∧ Hid (good ((bl s).drop k) = q) ∧ Mine w.heap.size w wr) (fun i _ _ => s.size - (intOf i).toNat)
  case atStart => exact ⟨0, ⟨rfl, Nat.zero_le _⟩, hq0, Mine.refl w⟩
  case round =>
    clear hq0
    obtain ⟨k, ⟨rfl, hk⟩, hno, hmi⟩ := hrel
    by_cases hlt : k < s.size
    · have h1 := HST.out k hlt
      have hgk := hget k hlt
      have hx := hgl k
      obtain ⟨x, hxe⟩ : ∃ x, gb (bl s) k = x := ⟨_, rfl⟩
      rw [hxe] at h1 hgk hx
      have hnn := hno.out
      rw [h1] at hnn
      have HNN := Lib.hid hnn
      have hl := fun w => letter_any x (by omega) w
      have HLT := Lib.hid hl
      obtain ⟨y, hy⟩ : ∃ y, ltr x = y := ⟨_, rfl⟩
      rw [hy] at HLT
      have HY := Lib.hid hy
      have HM := Lib.hid hmi
      have d0 : decide (k < s.size) = true := decide_eq_true hlt
      have k0 : (0 : Int) ≤ (k : Int) := by omega
      have k1 : (k : Int) < (s.size : Int) := by omega
      clear h1 hxe hl hy hmi hno hnn hget hgl
      rcases (by omega : y ≠ x ∨ (y = x ∧ x = 0) ∨ (y = x ∧ x ≠ 0)) with hc | ⟨hc, hz⟩ | ⟨hc, hz⟩
      · have e1 : (y != x) = true := bne_iff_ne.2 hc
        have e2 : ((y : Int) != (x : Int)) = true := bne_iff_ne.2 (by omega)
        have hqf : q = false := by rw [← HNN.out]; unfold small1; rw [HY.out, decide_eq_false hc]; rfl
        clear hc
        go_wp2_with fail
        go_quiet (first | (go_at_call 40; with_reducible exact quiet_r (HLT.out _)))
        go_wp2
        go_ret
        exact ⟨by rw [hqf]; rfl, (HM.out.drewN _).bel⟩
      · have e1 : (y != x) = false := by rw [hc]; simp
        have e2 : ((y : Int) != (x : Int)) = false := by rw [hc]; simp
        have e3 : (x == 0) = true := by rw [hz]; rfl
        have e4 : ((x : Int) == 0) = true := by rw [hz]; rfl
        have hqf : q = false := by rw [← HNN.out]; unfold small1; rw [hz]; simp
        clear hc hz
        go_wp2_with fail
        go_quiet (first | (go_at_call 40; with_reducible exact quiet_r (HLT.out _)))
        go_wp2
        go_ret
        exact ⟨by rw [hqf]; rfl, (HM.out.drewN _).bel⟩
      · have e1 : (y != x) = false := by rw [hc]; simp
        have e2 : ((y : Int) != (x : Int)) = false := by rw [hc]; simp
        have e3 : (x == 0) = false := by simp [hz]
        have e4 : ((x : Int) == 0) = false := by simp; omega
        have hqf : Hid (good ((bl s).drop (k + 1)) = q) := by
          have := HNN.out
          unfold small1 at this
          rw [HY.out, decide_eq_true hc, decide_eq_true hz] at this
          exact this
        clear hc hz
        go_wp2_with fail
        go_quiet (first | (go_at_call 40; with_reducible exact quiet_r (HLT.out _)))
        go_wp2
        go_roundw
        case rel => exact ⟨k + 1, ⟨by go_num, by omega⟩, hqf, HM.out.drewN _⟩
        case measure => simp [intOf]; omega
    · have d0 : decide (k < s.size) = false := decide_eq_false hlt
      have hqt : q = true := by
        rw [← hno.out, List.drop_eq_nil_of_le (by rw [HL.out]; omega)]; rfl
      obtain ⟨f1, f2, f3⟩ := empty_facts s
      obtain ⟨b0, hb0⟩ : ∃ b, decide (s.size = 0) = b := ⟨_, rfl⟩
      obtain ⟨b1, hb1⟩ : ∃ b, decide (s.size ≤ 32) = b := ⟨_, rfl⟩
      have hb1' : decide ((s.size : Int) ≤ 32) = b1 := by rw [← hb1]; apply Bool.eq_iff_iff.2; simp; omega
      rw [hb0] at f1 f2 f3
      have HM := Lib.hid hmi
      clear hno hmi
      cases b0 with
      | true =>
        go_wp2
        go_ret
        exact ⟨by rw [hqt, hb0]; rfl, HM.out.bel⟩
      | false =>
        go_wp2
        go_ret
        exact ⟨by rw [hqt, hb0, hb1]; rfl, HM.out.bel⟩
end Go.Proofs.Ythcggjehihkdoaa

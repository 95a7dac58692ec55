/- atom, Cut at one byte, last. -/
import Derived.RangeFuncNested
import Derived.RangeFuncBound
import Derived.RangeFuncCalls
import Derived.RangeFuncLeaves
import Derived.Shelf.Abstract
import Derived.Shelf.RegionOpen
import Derived.WalkKit
import Derived.OwnWalkIn
import Derived.TacticsInMore
import Derived.LoopNIn
import Derived.LoopIn
import Derived.Outline
import Derived.Lib.Hide
import Derived.Lib.SliceRun
import Derived.IntWalk
import Derived.WalkLawsBesides
import Derived.WalkSpells
import Derived.Laws.BitsAllLaws
import Derived.Lib.ConvBytes
import Derived.Maps.AppendAt
import Derived.Lib.AppendStr
import Derived.Lib.SlBytesConst
import Derived.Laws.AppendOwnNone
import Derived.Laws.OwnMore
import Derived.Laws.BytesArg
import Derived.Deep.RegionHeld3
import Derived.BigQuiet
import Derived.Deep.RegionLaw
import Derived.Deep.QuietTactic
import Derived.Lib.OthersKept
import Derived.Test.YtlgodokgebjjaaaProg
import Derived.Deep.DeepFit
import Derived.Test.YtlgodokgebjjaaaPtA
set_option linter.unusedVariables false
set_option linter.unusedSimpArgs false
namespace Go.Proofs.Ytlgodokgebjjaaa
open Go Go.RowKit Go.Shelf

theorem markN_iff (c : Nat) : markN c = true ↔ (c = 33 ∨ c = 35 ∨ c = 36 ∨ c = 37 ∨ c = 38 ∨ c = 39 ∨ c = 42 ∨ c = 43 ∨ c = 45 ∨ c = 47 ∨ c = 61 ∨ c = 63 ∨ c = 94 ∨ c = 95 ∨ c = 123 ∨ c = 124 ∨ c = 125 ∨ c = 126 ∨ c = 96) := by
  simp [markN]
set_option maxHeartbeats 4000000 in
set_option maxRecDepth 100000 in
theorem atom_any (c : Nat) (h : c < 256) (w : World) :
    Calls Try.prog 75 #[.int .u8 (c : Int)] w fun e w' => e = .returned (.bool (atomN c)) ∧ w' = w := by
  have hl := fun w => letter_any c h w
  obtain ⟨b, hb⟩ : ∃ b, wordN c = b := ⟨_, rfl⟩
  obtain ⟨r, hr⟩ : ∃ r, atomN c = r := ⟨_, rfl⟩
  have HB := Lib.hid hb
  have HR := Lib.hid hr
  simp only [hb] at hl
  rw [hr]
  have HL := Lib.hid hl
  clear hb hr hl
  go_enter Try.func75, Try.ntmps75
  go_wp2_with fail
  refine (HL.out _).mono ?_
  rintro e w' ⟨rfl, rfl⟩
  cases b with
  | true =>
    go_wp2
    go_ret
    exact ⟨ret_b (by rw [← HR.out, atomN, HB.out, Bool.true_or]), rfl⟩
  | false =>
    go_wp2
    all_goals
      go_ret
      refine ⟨ret_b ?_, rfl⟩
      rw [← HR.out, atomN, HB.out, Bool.false_or]
      try simp only [beq_iff_eq, beq_eq_false_iff_ne, ne_eq] at *
      first
        | (symm; rw [markN_iff]; omega)
        | (symm; rw [Bool.eq_false_iff, ne_eq, markN_iff]; omega)

theorem bl_lit (a : Array UInt8) : bl ⟨a⟩ = a.toList := rfl
set_option maxHeartbeats 1000000 in
set_option maxRecDepth 100000 in
theorem lcut_none (s : ByteArray) (c : UInt8) (h : Lib.indexByte (bl s) c = -1) (w : World) :
    Calls Try.prog 120 #[.string s, .string ⟨#[c]⟩] w fun e w' => e = .returned (.tuple #[.string s, .string ⟨#[]⟩, .bool false]) ∧ w' = w := by
  have hi := fun w => Try.stringslite_Index_one s c w
  rw [show Lib.indexByte s.data.toList c = -1 from h] at hi
  have HI := Lib.hid hi
  clear hi h
  go_enter Try.func120, Try.ntmps120
  go_wp2_with fail
  refine (HI.out _).mono ?_
  rintro e w' ⟨rfl, rfl⟩
  go_wp2
  go_ret3
  exact ⟨rfl, rfl⟩
set_option maxHeartbeats 1000000 in
set_option maxRecDepth 100000 in
theorem lcut_some (s : ByteArray) (c : UInt8) (k : Nat) (hk : k < s.size) (hm : s.size ≤ maxLen) (h : Lib.indexByte (bl s) c = k) (w : World) :
    Calls Try.prog 120 #[.string s, .string ⟨#[c]⟩] w fun e w' => e = .returned (.tuple #[.string (s.extract 0 k), .string (s.extract (k + 1) s.size), .bool true]) ∧ ∃ m, w' = w.drewN m := by
  unfold maxLen at hm
  have hi := fun w => Try.stringslite_Index_one s c w
  rw [show Lib.indexByte s.data.toList c = (k : Int) from h] at hi
  have HI := Lib.hid hi
  clear hi h
  have b1 : (0 : Int) ≤ (k : Int) := by omega
  have b2 : (k : Int) ≤ (s.size : Int) := by omega
  have b3 : (0 : Int) ≤ (k : Int) + 1 := by omega
  have b4 : (k : Int) + 1 ≤ (s.size : Int) := by omega
  have b5 : ((k : Int) + 1).toNat = k + 1 := by omega
  have b6 : IntKind.i64.wrap ((k : Int) + 1) = (k : Int) + 1 := IntWalk.i64_in _ (by omega)
  go_enter Try.func120, Try.ntmps120
  go_wp2_with fail
  refine (HI.out _).mono ?_
  rintro e w' ⟨rfl, rfl⟩
  go_wp2_with fail
  go_quiet (fail)
  go_wp2
  go_ret3
  exact ⟨rfl, _, rfl⟩
set_option maxHeartbeats 1000000 in
set_option maxRecDepth 100000 in
theorem cut_none (s : ByteArray) (c : UInt8) (h : Lib.indexByte (bl s) c = -1) (w : World) :
    Calls Try.prog 97 #[.string s, .string ⟨#[c]⟩] w fun e w' => e = .returned (.tuple #[.string s, .string ⟨#[]⟩, .bool false]) ∧ w' = w := by
  have HI := Lib.hid (fun w => lcut_none s c h w)
  clear h
  go_enter Try.func97, Try.ntmps97
  go_wp2_with fail
  refine (HI.out _).mono ?_
  rintro e w' ⟨rfl, rfl⟩
  go_wp2
  go_ret3
  exact ⟨rfl, rfl⟩
set_option maxHeartbeats 1000000 in
set_option maxRecDepth 100000 in
theorem cut_some (s : ByteArray) (c : UInt8) (k : Nat) (hk : k < s.size) (hm : s.size ≤ maxLen) (h : Lib.indexByte (bl s) c = k) (w : World) :
    Calls Try.prog 97 #[.string s, .string ⟨#[c]⟩] w fun e w' => e = .returned (.tuple #[.string (s.extract 0 k), .string (s.extract (k + 1) s.size), .bool true]) ∧ ∃ m, w' = w.drewN m := by
  have HI := Lib.hid (fun w => lcut_some s c k hk hm h w)
  clear h hm hk
  go_enter Try.func97, Try.ntmps97
  go_wp2_with fail
  refine (HI.out _).mono ?_
  rintro e w' ⟨rfl, m, rfl⟩
  go_wp2
  go_ret3
  exact ⟨rfl, _, rfl⟩
set_option maxHeartbeats 1000000 in
set_option maxRecDepth 100000 in
/-- **the reference's last** -/
theorem last_any (s : ByteArray) (c : Nat) (hm : s.size ≤ maxLen) (w : World) :
    Calls Try.prog 74 #[.string s, .int .u8 (c : Int)] w fun e w' => e = .returned (.int .i64 (lastB (bl s) c)) ∧ w' = w := by
  unfold maxLen at hm
  obtain ⟨r, hr⟩ : ∃ r, lastB (bl s) c = r := ⟨_, rfl⟩
  have HR : Hid (lastN (bl s) c s.size = r) := by rw [← hr, lastB, bl_len]; rfl
  rw [hr]
  clear hr
  go_enter Try.func74, Try.ntmps74
  go_wp2
  go_loop [5] (fun i => ∃ k : Nat, (i = .int .i64 ((k : Int) - 1) ∧ k ≤ s.size) ∧ lastN (bl s) c k = r) (fun i => (intOf i + 1).toNat)
  case atStart => exact ⟨s.size, ⟨rfl, Nat.le_refl _⟩, HR.out⟩
  case round =>
    obtain ⟨k, ⟨rfl, hk⟩, hl⟩ := hrel
    cases k with
    | zero =>
      have hl' : r = -1 := by rw [← hl]; rfl
      subst hl'
      clear hl HR
      go_wp2
      go_ret
      exact ⟨rfl, rfl⟩
    | succ k =>
      have hg := bl_get s k (by omega)
      have HL := Lib.hid hl
      have e1 : (((k + 1 : Nat) : Int) - 1) = (k : Int) := by omega
      rw [e1]
      clear hl e1 HR
      by_cases hc : gb (bl s) k = c
      · have hcc : (s[k]'(by omega)).toNat = c := hg.trans hc
        have d1 : ((c : Int) == (c : Int)) = true := by simp
        have hl : r = (k : Int) := by rw [← HL.out, lastN, if_pos hc]
        subst hl
        clear hg hc HL
        go_wp2
        go_ret
        exact ⟨rfl, rfl⟩
      · obtain ⟨b, hb⟩ : ∃ b, gb (bl s) k = b := ⟨_, rfl⟩
        rw [hb] at hg hc
        have d1 : (b == c) = false := by simpa using hc
        have d2 : ((b : Int) == (c : Int)) = false := by simp; omega
        have hl : lastN (bl s) c k = r := by rw [← HL.out, lastN, if_neg (by rw [hb]; exact hc)]
        have HL := Lib.hid hl
        clear hb hl hc
        go_wp2
        go_round
        case rel => exact ⟨k, ⟨rfl, by omega⟩, HL.out⟩
        case measure => simp [intOf]
end Go.Proofs.Ytlgodokgebjjaaa

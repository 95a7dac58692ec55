/- The reference's Parse; Of, Show. -/
import Derived.RangeFuncNested
import Derived.RangeFuncBound
import Derived.RangeFuncCalls
import Derived.RangeFuncLeaves
import Derived.Shelf.Abstract
import Derived.Shelf.RegionOpen
import Derived.WalkKit
import Derived.OwnWalkIn
import Derived.TacticsInMore
import Derived.LoopNIn
import Derived.LoopIn
import Derived.Outline
import Derived.Lib.Hide
import Derived.Lib.SliceRun
import Derived.IntWalk
import Derived.WalkLawsBesides
import Derived.WalkSpells
import Derived.Laws.BitsAllLaws
import Derived.Lib.ConvBytes
import Derived.Maps.AppendAt
import Derived.Lib.AppendStr
import Derived.Lib.SlBytesConst
import Derived.Laws.AppendOwnNone
import Derived.Laws.OwnMore
import Derived.Laws.BytesArg
import Derived.Deep.RegionHeld3
import Derived.BigQuiet
import Derived.Deep.RegionLaw
import Derived.Deep.QuietTactic
import Derived.Lib.OthersKept
import Derived.Test.YtofdfcngmkkfdaaProg
import Derived.Deep.DeepFit
import Derived.Test.YtofdfcngmkkfdaaPtJ
set_option linter.unusedVariables false
set_option linter.unusedSimpArgs false
namespace Go.Proofs.Ytofdfcngmkkfdaa
open Go Go.RowKit Go.Shelf

set_option maxRecDepth 100000 in
set_option maxHeartbeats 4000000 in
theorem rparse_in (s : ByteArray) (hm : s.size ≤ maxLen) (h1 : 1 ≤ s.size) (h60 : gb (bl s) 0 = 60) (w : World) :
    Calls Try.prog 24 #[.string s] w fun e w' => e = .returned (.tuple #[St (parA (bl s)), St (parR (bl s)), .bool (parB (bl s))]) ∧ Below w.heap.size w w' := by
  unfold maxLen at hm
  have hpb : parB (bl s) = parG (bl s) := by unfold parB; rw [h60, show decide (1 ≤ (bl s).length) = true from decide_eq_true (by rw [bl_len]; exact h1)]; rfl
  have hg0 := bl_get s 0 (by omega)
  rw [h60] at hg0
  obtain ⟨e1, e1'⟩ := empty_len h1
  have z0 : 0 < s.size := by omega
  have HPB := Lib.hid hpb
  obtain ⟨vA, hvA⟩ : ∃ v, St (parA (bl s)) = v := ⟨_, rfl⟩
  obtain ⟨vR, hvR⟩ : ∃ v, St (parR (bl s)) = v := ⟨_, rfl⟩
  obtain ⟨vB, hvB⟩ : ∃ v, parB (bl s) = v := ⟨_, rfl⟩
  have HA := Lib.hid hvA
  have HR := Lib.hid hvR
  have HB := Lib.hid hvB
  rw [hvA, hvR, hvB]
  clear hpb h60 hvA hvR hvB
  have none_ : vB = false → vA = .string ⟨#[]⟩ ∧ vR = .string s := by
    intro e
    rw [← HA.out, ← HR.out]
    unfold parA parR
    rw [HB.out, e]
    exact ⟨rfl, St_bl s⟩
  have HNONE := Lib.hid none_
  clear none_
  go_enter Try.func24, Try.ntmps24
  go_wp2
  clear hg0 e1 e1' z0
  go_loopw [5] (fun i wr => ∃ k : Nat, (i = .int .i64 (k : Int) ∧ 1 ≤ k ∧ k ≤ s.size) ∧ Hid (∀ j, 1 ≤ j → j < k → gb (bl s) j ≠ 62) ∧ wr = w) (fun i _ => s.size - (intOf i).toNat)
  case atStart => exact ⟨1, ⟨rfl, by omega, by omega⟩, fun j h1 h2 => by omega, rfl⟩
  case round =>
    obtain ⟨k, ⟨rfl, hk1, hk⟩, hno, rfl⟩ := hrel
    by_cases hlt : k < s.size
    · have hg := bl_get s k hlt
      have d0 : decide (k < s.size) = true := decide_eq_true hlt
      by_cases h62 : gb (bl s) k = 62
      · rw [h62] at hg
        have hix : Lib.indexByte ((bl s).drop 1) 62 = ((k - 1 : Nat) : Int) := by
          refine indexByte_first _ _ _ ?_ ?_
          · rw [List.getElem?_drop, show 1 + (k - 1) = k by omega]
            exact (gbc_eq (c := 62) (by rw [bl_len]; exact hlt)).1 h62
          · intro j hj
            rw [List.getElem?_drop]
            exact fun e => hno.out (1 + j) (by omega) (by omega) ((gbc_eq (c := 62) (by rw [bl_len]; omega)).2 e)
        have hpg : parG (bl s) = (decide (k = 1) || mailB (((bl s).drop 1).take (k - 1))) := by
          unfold parG
          rw [hix, show decide ((0 : Int) ≤ ((k - 1 : Nat) : Int)) = true from decide_eq_true (by omega), Bool.true_and, Int.toNat_natCast]
          congr 1
          exact decide_eq_decide.2 (by omega)
        have hsub : ((bl s).drop 1).take (k - 1) = bl (s.extract 1 k) := by rw [bl_extract]
        have hrest : ((bl s).drop 1).drop (k - 1 + 1) = bl (s.extract (k + 1) s.size) := by
          rw [bl_extract, List.drop_drop, List.take_of_length_le (by simp [bl_len]), show 1 + (k - 1 + 1) = k + 1 by omega]
        have hAA : vB = true → vA = .string (s.extract 1 k) ∧ vR = .string (s.extract (k + 1) s.size) := by
          intro h
          rw [← HA.out, ← HR.out]
          unfold parA parR
          rw [HB.out, h, if_pos rfl, if_pos rfl, hix, Int.toNat_natCast, hsub, hrest]
          exact ⟨St_bl _, St_bl _⟩
        rw [← HPB.out, HB.out] at hpg
        have c1 : (0 : Int) ≤ 1 := by omega
        have c2 : (1 : Int) ≤ (k : Int) := by omega
        have c3 : (k : Int) ≤ (s.size : Int) := by omega
        have c4 : (0 : Int) ≤ (k : Int) + 1 := by omega
        have c5 : (k : Int) + 1 ≤ (s.size : Int) := by omega
        have c6 : ((k : Int) + 1).toNat = k + 1 := by omega
        have c7 : IntKind.i64.wrap ((k : Int) + 1) = (k : Int) + 1 := IntWalk.i64_in _ (by omega)
        by_cases hk1' : k = 1
        · have hvb : vB = true := by rw [hpg]; simp [hk1']
          subst hk1'
          have hem : s.extract 1 1 = ByteArray.empty := bl_ext (by rw [bl_extract]; simp; rfl)
          rw [hem] at hAA
          obtain ⟨rfl, rfl⟩ := hAA hvb
          subst hvb
          clear hem
          have c6' : ((1 : Int) + 1).toNat = 1 + 1 := by omega
          clear hAA hpg hsub hrest hix h62 hno
          go_wp2_with fail
          go_quiet (fail)
          go_wp2
          go_ret3
          exact ⟨rfl, below_drewN (Below.refl _ _) _⟩
        · have d1 : (k == 1) = false := by simpa using hk1'
          have d2 : ((k : Int) == 1) = false := by simp; omega
          rw [show decide (k = 1) = false from decide_eq_false hk1', Bool.false_or, hsub] at hpg
          have hmb := fun w => rmailbox_any (s.extract 1 k) (by simp only [ByteArray.size_extract]; unfold maxLen; omega) w
          rw [← hpg] at hmb
          have HM := Lib.hid hmb
          clear hmb hpg hsub hrest hix h62 hno
          cases vB with
          | true =>
            obtain ⟨rfl, rfl⟩ := hAA rfl
            clear hAA
            go_wp2_with fail
            refine (HM.out _).mono ?_
            rintro e w1 ⟨rfl, hbw⟩
            go_wp2_with fail
            go_quiet (fail)
            go_wp2
            go_ret3
            exact ⟨rfl, below_drewN hbw _⟩
          | false =>
            obtain ⟨rfl, rfl⟩ := HNONE.out rfl
            clear hAA
            go_wp2_with fail
            refine (HM.out _).mono ?_
            rintro e w1 ⟨rfl, hbw⟩
            go_wp2
            go_ret3
            exact ⟨rfl, hbw⟩
      · obtain ⟨c, hc⟩ : ∃ c, gb (bl s) k = c := ⟨_, rfl⟩
        have hno' : Hid (∀ j, 1 ≤ j → j < k + 1 → gb (bl s) j ≠ 62) := by
          intro j h1 h2
          by_cases e : j = k
          · rw [e]; exact h62
          · exact hno.out j h1 (by omega)
        rw [hc] at hg h62
        have d3 : (c == 62) = false := by simpa using h62
        have d4 : ((c : Int) == 62) = false := by simp; omega
        clear hc h62 hno
        go_wp2
        go_roundw
        case rel => exact ⟨k + 1, ⟨by go_num, by omega, by omega⟩, hno', by trivial⟩
        case measure => simp [intOf]; omega
    · have d0 : decide (k < s.size) = false := decide_eq_false hlt
      have hvb : vB = false := by
        rw [← HB.out, HPB.out]
        unfold parG
        rw [indexByte_never ((bl s).drop 1) 62 (fun j hj => by
          rw [List.length_drop, bl_len] at hj
          rw [List.getElem?_drop]
          exact fun e => hno.out (1 + j) (by omega) (by omega) ((gbc_eq (c := 62) (by rw [bl_len]; omega)).2 e))]
        rfl
      obtain ⟨rfl, rfl⟩ := HNONE.out hvb
      subst hvb
      clear hno
      go_wp2
      go_ret3
      exact ⟨rfl, Below.refl _ _⟩
set_option maxRecDepth 100000 in
set_option maxHeartbeats 2000000 in
/-- **the reference's Parse** -/
theorem rparse_any (s : ByteArray) (hm : s.size ≤ maxLen) (w : World) :
    Calls Try.prog 24 #[.string s] w fun e w' => e = .returned (.tuple #[St (parA (bl s)), St (parR (bl s)), .bool (parB (bl s))]) ∧ Below w.heap.size w w' := by
  by_cases h1 : 1 ≤ s.size
  · by_cases h60 : gb (bl s) 0 = 60
    · exact rparse_in s hm h1 h60 w
    · have hB : parB (bl s) = false := by
        unfold parB
        rw [show (gb (bl s) 0 == 60) = false by simpa using h60, Bool.and_false]; rfl
      have hA : parA (bl s) = [] := by unfold parA; rw [hB]; rfl
      have hR : parR (bl s) = bl s := by unfold parR; rw [hB]; rfl
      rw [hA, hR, hB, St_bl]
      have hg := bl_get s 0 (by omega)
      obtain ⟨c, hc⟩ : ∃ c, gb (bl s) 0 = c := ⟨_, rfl⟩
      rw [hc] at hg h60
      have d3 : (c != 60) = true := by simpa using h60
      have d4 : ((c : Int) != 60) = true := by simp; omega
      obtain ⟨e1, e1'⟩ := empty_len h1
      have z0 : 0 < s.size := by omega
      clear hA hR hB hc
      go_enter Try.func24, Try.ntmps24
      go_wp2
      go_ret3
      exact ⟨rfl, Below.refl _ _⟩
  · have hs : s = ⟨#[]⟩ := bl_ext (by have := bl_len s; apply List.length_eq_zero_iff.1; omega)
    subst hs
    have hA : parA (bl ⟨#[]⟩) = [] := rfl
    have hR : parR (bl ⟨#[]⟩) = [] := rfl
    have hB : parB (bl ⟨#[]⟩) = false := rfl
    rw [hA, hR, hB]
    clear hA hR hB
    go_enter Try.func24, Try.ntmps24
    go_wp2
    go_ret3
    exact ⟨rfl, Below.refl _ _⟩

def ofA (l : List UInt8) : List UInt8 := if lastB l 64 < 0 then l else l.take (lastB l 64).toNat
def ofD (l : List UInt8) : List UInt8 := if lastB l 64 < 0 then [] else l.drop ((lastB l 64).toNat + 1)
set_option maxRecDepth 100000 in
set_option maxHeartbeats 2000000 in
theorem of_gen (s : ByteArray) (hf : True ∧ (∀ w, Calls Try.prog 52 #[.string s, .int .u8 64] w fun e w' => e = .returned (.int .i64 (lastB (bl s) 64)) ∧ w' = w)) (hm : s.size ≤ maxLen) (w : World) :
    Calls Try.prog 34 #[.string s] w fun e w' => e = .returned (.tuple #[St (ofA (bl s)), St (ofD (bl s))]) ∧ Below w.heap.size w w' := by
  obtain ⟨-, hl⟩ := hf
  unfold maxLen at hm
  have hbd := lastB_bound (bl s) 64
  rw [bl_len] at hbd
  obtain ⟨a, ha⟩ : ∃ a, lastB (bl s) 64 = a := ⟨_, rfl⟩
  unfold ofA ofD
  rw [ha] at hbd ⊢
  simp only [ha] at hl
  have HL := Lib.hid hl
  clear hl ha
  by_cases h : a < 0
  · rw [if_pos h, if_pos h, St_bl]
    have d : decide (a < 0) = true := decide_eq_true h
    go_enter Try.func34, Try.ntmps34
    go_wp2_with fail
    refine (HL.out _).mono ?_
    rintro e w' ⟨rfl, rfl⟩
    go_wp2
    go_ret2
    exact ⟨rfl, Below.refl _ _⟩
  · rw [if_neg h, if_neg h]
    obtain ⟨n, rfl⟩ := Int.eq_ofNat_of_zero_le (show 0 ≤ a by omega)
    have e1 : St ((bl s).take (n : Int).toNat) = .string (s.extract 0 n) := by rw [Int.toNat_natCast, ← St_bl (s.extract 0 n), bl_extract, List.drop_zero, Nat.sub_zero]
    have e2 : St ((bl s).drop ((n : Int).toNat + 1)) = .string (s.extract (n + 1) s.size) := by rw [Int.toNat_natCast, ← St_bl (s.extract (n + 1) s.size), bl_extract, List.take_of_length_le (by simp [bl_len])]
    rw [e1, e2]
    have c1 : (0 : Int) ≤ (n : Int) := by omega
    have c2 : (n : Int) ≤ (s.size : Int) := by omega
    have c3 : (0 : Int) ≤ (n : Int) + 1 := by omega
    have c4 : (n : Int) + 1 ≤ (s.size : Int) := by omega
    have c5 : ((n : Int) + 1).toNat = n + 1 := by omega
    have c6 : IntKind.i64.wrap ((n : Int) + 1) = (n : Int) + 1 := IntWalk.i64_in _ (by omega)
    have d : decide ((n : Int) < 0) = false := decide_eq_false h
    clear e1 e2
    go_enter Try.func34, Try.ntmps34
    go_wp2_with fail
    refine (HL.out _).mono ?_
    rintro e w' ⟨rfl, rfl⟩
    go_wp2_with fail
    go_quiet (fail)
    go_wp2
    go_ret2
    exact ⟨rfl, below_drewN (Below.refl _ _) _⟩
theorem of_any (s : ByteArray) (hm : s.size ≤ maxLen) (w : World) :
    Calls Try.prog 34 #[.string s] w fun e w' => e = .returned (.tuple #[St (ofA (bl s)), St (ofD (bl s))]) ∧ Below w.heap.size w w' :=
  of_gen s ⟨trivial, fun w => lastIx s 64 hm w⟩ hm w
set_option maxRecDepth 100000 in
set_option maxHeartbeats 2000000 in
theorem rof_any (s : ByteArray) (hm : s.size ≤ maxLen) (w : World) :
    Calls Try.prog 35 #[.string s] w fun e w' => e = .returned (.tuple #[St (ofA (bl s)), St (ofD (bl s))]) ∧ Below w.heap.size w w' := by
  have hl : ∀ w, Calls Try.prog 55 #[.string s, .int .u8 64] w fun e w' => e = .returned (.int .i64 (lastB (bl s) 64)) ∧ w' = w := fun w => last_any s 64 hm w
  unfold maxLen at hm
  have hbd := lastB_bound (bl s) 64
  rw [bl_len] at hbd
  obtain ⟨a, ha⟩ : ∃ a, lastB (bl s) 64 = a := ⟨_, rfl⟩
  unfold ofA ofD
  rw [ha] at hbd ⊢
  simp only [ha] at hl
  have HL := Lib.hid hl
  clear hl ha
  by_cases h : a < 0
  · rw [if_pos h, if_pos h, St_bl]
    have d : decide (a < 0) = true := decide_eq_true h
    go_enter Try.func35, Try.ntmps35
    go_wp2_with fail
    refine (HL.out _).mono ?_
    rintro e w' ⟨rfl, rfl⟩
    go_wp2
    go_ret2
    exact ⟨rfl, Below.refl _ _⟩
  · rw [if_neg h, if_neg h]
    obtain ⟨n, rfl⟩ := Int.eq_ofNat_of_zero_le (show 0 ≤ a by omega)
    have e1 : St ((bl s).take (n : Int).toNat) = .string (s.extract 0 n) := by rw [Int.toNat_natCast, ← St_bl (s.extract 0 n), bl_extract, List.drop_zero, Nat.sub_zero]
    have e2 : St ((bl s).drop ((n : Int).toNat + 1)) = .string (s.extract (n + 1) s.size) := by rw [Int.toNat_natCast, ← St_bl (s.extract (n + 1) s.size), bl_extract, List.take_of_length_le (by simp [bl_len])]
    rw [e1, e2]
    have c1 : (0 : Int) ≤ (n : Int) := by omega
    have c2 : (n : Int) ≤ (s.size : Int) := by omega
    have c3 : (0 : Int) ≤ (n : Int) + 1 := by omega
    have c4 : (n : Int) + 1 ≤ (s.size : Int) := by omega
    have c5 : ((n : Int) + 1).toNat = n + 1 := by omega
    have c6 : IntKind.i64.wrap ((n : Int) + 1) = (n : Int) + 1 := IntWalk.i64_in _ (by omega)
    have d : decide ((n : Int) < 0) = false := decide_eq_false h
    clear e1 e2
    go_enter Try.func35, Try.ntmps35
    go_wp2_with fail
    refine (HL.out _).mono ?_
    rintro e w' ⟨rfl, rfl⟩
    go_wp2_with fail
    go_quiet (fail)
    go_wp2
    go_ret2
    exact ⟨rfl, below_drewN (Below.refl _ _) _⟩
end Go.Proofs.Ytofdfcngmkkfdaa

/- retain: Until of both. -/
import Derived.RangeFuncNested
import Derived.RangeFuncBound
import Derived.RangeFuncCalls
import Derived.RangeFuncLeaves
import Derived.Shelf.Abstract
import Derived.Shelf.RegionOpen
import Derived.WalkKit
import Derived.OwnWalkIn
import Derived.TacticsInMore
import Derived.LoopNIn
import Derived.LoopIn
import Derived.Outline
import Derived.Lib.Hide
import Derived.Lib.SliceRun
import Derived.IntWalk
import Derived.WalkLawsBesides
import Derived.WalkSpells
import Derived.Laws.BitsAllLaws
import Derived.Lib.ConvBytes
import Derived.Maps.AppendAt
import Derived.Lib.AppendStr
import Derived.Lib.SlBytesConst
import Derived.Laws.AppendOwnNone
import Derived.Laws.OwnMore
import Derived.Laws.BytesArg
import Derived.Deep.RegionHeld3
import Derived.BigQuiet
import Derived.Deep.RegionLaw
import Derived.Deep.QuietTactic
import Derived.Lib.OthersKept
import Derived.Test.YtofdfcngmkkfdaaProg
import Derived.Deep.DeepFit
import Derived.Lib.OthersKept
import Derived.Laws.RangeAny
import Derived.Laws.RangeString
import Derived.Test.YtofdfcngmkkfdaaPtN
set_option linter.unusedVariables false
set_option linter.unusedSimpArgs false
namespace Go.Proofs.Ytofdfcngmkkfdaa
open Go Go.RowKit Go.Shelf

def in64 (a : Int) : Prop := -9223372036854775808 ≤ a ∧ a ≤ 9223372036854775807
theorem in64_of {a : Int} (h : (Lit.int .i64 a).wf = true) : in64 a := by
  simp [Lit.wf, IntKind.min, IntKind.max, IntKind.signed, IntKind.bits] at h
  unfold in64
  omega
def untN (a k : Int) : Int := if 9223372036854775807 - max k 0 < a then 9223372036854775807 else a + max k 0
theorem untN_in {a k : Int} (ha : in64 a) (hk : in64 k) : in64 (untN a k) := by
  unfold untN in64 at *
  split <;> omega
set_option maxRecDepth 100000 in
set_option maxHeartbeats 1000000 in
/-- **Until** -/
theorem until_any (a k : Int) (ha : in64 a) (hk : in64 k) (w : World) :
    Calls Try.prog 30 #[.int .i64 a, .int .i64 k] w fun e w' => e = .returned (.int .i64 (untN a k)) ∧ w' = w := by
  obtain ⟨u, hu⟩ : ∃ u, untN a k = u := ⟨_, rfl⟩
  rw [hu]
  have HU := Lib.hid hu
  clear hu
  obtain ⟨a1, a2⟩ := ha
  obtain ⟨k1, k2⟩ := hk
  go_enter Try.func30, Try.ntmps30
  go_wp2
  all_goals
    go_ret
    refine ⟨ret_i64 ?_, rfl⟩
    rw [← HU.out]
    unfold untN
    first | rw [if_pos (by omega)] | rw [if_neg (by omega)]
set_option maxRecDepth 100000 in
set_option maxHeartbeats 1000000 in
/-- **the reference's Until** -/
theorem runtil_any (a k : Int) (ha : in64 a) (hk : in64 k) (w : World) :
    Calls Try.prog 31 #[.int .i64 a, .int .i64 k] w fun e w' => e = .returned (.int .i64 (untN a k)) ∧ w' = w := by
  obtain ⟨u, hu⟩ : ∃ u, untN a k = u := ⟨_, rfl⟩
  rw [hu]
  have HU := Lib.hid hu
  clear hu
  obtain ⟨a1, a2⟩ := ha
  obtain ⟨k1, k2⟩ := hk
  by_cases h0 : 0 < a
  · have d0 : decide (0 < a) = true := decide_eq_true h0
    go_enter Try.func31, Try.ntmps31
    go_wp2
    all_goals
      go_ret
      refine ⟨ret_i64 ?_, rfl⟩
      rw [← HU.out]
      unfold untN
      first | rw [if_pos (by omega)] | rw [if_neg (by omega)]
  · have d0 : decide (0 < a) = false := decide_eq_false h0
    go_enter Try.func31, Try.ntmps31
    go_wp2
    all_goals
      go_ret
      refine ⟨ret_i64 ?_, rfl⟩
      rw [← HU.out]
      unfold untN
      first | rw [if_pos (by omega)] | rw [if_neg (by omega)]
def lowN (c : Nat) : Bool := decide (97 ≤ c ∧ c ≤ 122)
def smallB (l : List UInt8) (n : Int) : Bool := ofN lowN l && decide (1 ≤ l.length) && decide ((l.length : Int) ≤ n)
set_option maxRecDepth 100000 in
set_option maxHeartbeats 4000000 in
/-- **Small** -/
theorem small13_any (s : ByteArray) (n : Int) (hm : s.size ≤ maxLen) (w : World) :
    Calls Try.prog 64 #[.string s, .int .i64 n] w fun e w' => e = .returned (.bool (smallB (bl s) n)) ∧ w' = w := by
  unfold maxLen at hm
  obtain ⟨r, hr⟩ : ∃ r, smallB (bl s) n = r := ⟨_, rfl⟩
  have HR := Lib.hid hr
  rw [hr]
  unfold smallB at HR
  rw [bl_len] at HR
  clear hr
  go_enter Try.func64, Try.ntmps64
  go_wp2
  go_loop [5] (fun i => ∃ k : Nat, (i = .int .i64 (k : Int) ∧ k ≤ s.size) ∧ ofN lowN ((bl s).take k) = true) (fun i => s.size - (intOf i).toNat)
  case atStart => exact ⟨0, ⟨rfl, Nat.zero_le _⟩, rfl⟩
  case round =>
    obtain ⟨k, ⟨rfl, hk⟩, hl⟩ := hrel
    have HL := Lib.hid hl
    clear hl
    by_cases hlt : k < s.size
    · have hg := bl_get s k hlt
      have hsn := ofN_snoc lowN (bl s) k (by rw [bl_len]; exact hlt)
      have hno := ofN_not lowN (bl s) k (by rw [bl_len]; exact hlt)
      obtain ⟨c, hcc⟩ : ∃ c, gb (bl s) k = c := ⟨_, rfl⟩
      rw [hcc] at hg hsn hno
      rw [HL.out, Bool.true_and] at hsn
      have HSN := Lib.hid hsn
      have HNO := Lib.hid hno
      have d0 : decide (k < s.size) = true := decide_eq_true hlt
      clear hsn hno hcc
      rcases (by omega : c < 97 ∨ (97 ≤ c ∧ c ≤ 122) ∨ 122 < c) with h | h | h
      · have d1 : decide (c < 97) = true := decide_eq_true h
        have d2 : decide ((c : Int) < 97) = true := decide_eq_true (by omega)
        have hf : r = false := by rw [← HR.out, HNO.out (by unfold lowN; exact decide_eq_false (by omega))]; rfl
        subst hf
        go_wp2
        go_ret
        exact ⟨rfl, rfl⟩
      · have d1 : decide (c < 97) = false := decide_eq_false (by omega)
        have d2 : decide ((c : Int) < 97) = false := decide_eq_false (by omega)
        have d3 : decide (122 < c) = false := decide_eq_false (by omega)
        have d4 : decide ((122 : Int) < (c : Int)) = false := decide_eq_false (by omega)
        have HLW := Lib.hid h
        clear h
        go_wp2
        go_round
        case rel => exact ⟨k + 1, ⟨by go_num, by omega⟩, by rw [HSN.out]; unfold lowN; exact decide_eq_true HLW.out⟩
        case measure => simp [intOf]; omega
      · have d1 : decide (c < 97) = false := decide_eq_false (by omega)
        have d2 : decide ((c : Int) < 97) = false := decide_eq_false (by omega)
        have d3 : decide (122 < c) = true := decide_eq_true h
        have d4 : decide ((122 : Int) < (c : Int)) = true := decide_eq_true (by omega)
        have hf : r = false := by rw [← HR.out, HNO.out (by unfold lowN; exact decide_eq_false (by omega))]; rfl
        subst hf
        go_wp2
        go_ret
        exact ⟨rfl, rfl⟩
    · have hall := ofN_all lowN (bl s) k HL.out (by rw [bl_len]; omega)
      rw [hall, Bool.true_and] at HR
      have d0 : decide (k < s.size) = false := decide_eq_false hlt
      clear hall
      by_cases h1 : 1 ≤ s.size
      · have d1 : decide (1 ≤ s.size) = true := decide_eq_true h1
        have d2 : decide ((1 : Int) ≤ (s.size : Int)) = true := decide_eq_true (by omega)
        rw [d1, Bool.true_and] at HR
        obtain ⟨q, hq⟩ : ∃ q, decide ((s.size : Int) ≤ n) = q := ⟨_, rfl⟩
        rw [hq] at HR
        have hf : r = q := HR.out.symm
        subst hf
        go_wp2
        go_ret
        exact ⟨rfl, rfl⟩
      · have d1 : decide (1 ≤ s.size) = false := decide_eq_false h1
        have d2 : decide ((1 : Int) ≤ (s.size : Int)) = false := decide_eq_false (by omega)
        rw [d1, Bool.false_and] at HR
        have hf : r = false := HR.out.symm
        subst hf
        go_wp2
        go_ret
        exact ⟨rfl, rfl⟩
/-- how far an iterator is -/
theorem iter_pos (w : World) (k : Nat) (s : ByteArray) (p : Nat) (h : w.heap[k]? = some (.stringIter s p)) : w.iterPos k = p := by simp [World.iterPos, h]
set_option maxRecDepth 100000 in
set_option maxHeartbeats 4000000 in
/-- **letters** -/
theorem letters_any (s : ByteArray) (hm : s.size ≤ maxLen) (w : World) :
    Calls Try.prog 62 #[.string s] w fun e w' => e = .returned (.bool (smallB (bl s) 20)) ∧ Below w.heap.size w w' := by
  unfold maxLen at hm
  obtain ⟨r, hr⟩ : ∃ r, smallB (bl s) 20 = r := ⟨_, rfl⟩
  have HR := Lib.hid hr
  rw [hr]
  unfold smallB at HR
  rw [bl_len] at HR
  clear hr
  obtain ⟨B, hB⟩ : ∃ B, w.heap.size = B := ⟨_, rfl⟩
  have i2 : (w.iter s 0).heap[B]? = some (.stringIter s 0) := by rw [← hB]; exact World.iter_heap w s 0
  have hb : Below B w (w.iter s 0) := by
    have := (Below.refl B w).alloc (by omega) (.stringIter s 0)
    exact this
  have I2 := Lib.hid i2
  have HB := Lib.hid hb
  clear i2 hb
  go_enter Try.func62, Try.ntmps62
  go_wp2_with fail
  go_loopw [] (fun wx => ∃ i : Nat, (i ≤ s.size ∧ ofN lowN ((bl s).take i) = true) ∧ wx.heap[B]? = some (.stringIter s i) ∧ Below B w wx) (fun wx => s.size - wx.iterPos B)
  case atStart => exact ⟨0, ⟨by omega, rfl⟩, I2.out, HB.out⟩
  case round =>
    obtain ⟨i, ⟨hi, hl⟩, hit, hb⟩ := hrel
    have HM := Lib.hid (iter_pos wr B s i hit)
    have HL := Lib.hid hl
    clear I2 HB hl
    by_cases hlt : i < s.size
    · have hg := bl_get s i hlt
      have hsn := ofN_snoc lowN (bl s) i (by rw [bl_len]; exact hlt)
      have hno := ofN_not lowN (bl s) i (by rw [bl_len]; exact hlt)
      obtain ⟨c, hcc⟩ : ∃ c, gb (bl s) i = c := ⟨_, rfl⟩
      rw [hcc] at hg hsn hno
      rw [HL.out, Bool.true_and] at hsn
      have HSN := Lib.hid hsn
      have HNO := Lib.hid hno
      obtain ⟨p, q, w1, hw1, hnx, hq, hp⟩ : ∃ (p q : Nat) (w1 : World), w1 = wr.iterAt B s p ∧ (∀ ty, (Instr.next (.pointer (some ⟨B, 0, none⟩)) true ty).run Try.prog wr = .ok (.tuple #[.bool true, .int .i64 (i : Int), .int .i32 (q : Int)]) w1) ∧ ((c < 128 ∧ q = c) ∨ (128 ≤ c ∧ 128 ≤ q)) ∧ (c < 128 → p = i + 1) := by
        by_cases ha : c < 128
        · exact ⟨i + 1, c, _, rfl, fun ty => by rw [← hg]; exact Lib.run_next_ascii_at wr B s i ty hit hlt (by omega), .inl ⟨ha, rfl⟩, fun _ => rfl⟩
        · exact ⟨_, _, _, rfl, fun ty => Lib.run_next_any_at wr B s i ty hit hlt, .inr ⟨by omega, (decode_high s i hlt (by omega)).1⟩, fun h => absurd h ha⟩
      have qb : Below B w w1 := by rw [hw1]; exact Lib.below_iterAt hb (by omega) s p
      have qi : c < 128 → w1.heap[B]? = some (.stringIter s (i + 1)) := by
        intro h; rw [hw1, hp h]; exact Lib.iterAt_heap wr B s i (i + 1) hit
      have HQB := Lib.hid qb
      have HQI := Lib.hid qi
      clear hsn hno hcc hw1 hp hb hit qb qi
      by_cases hlow : 97 ≤ c ∧ c ≤ 122
      · have hqc : q = c := by omega
        subst hqc
        have e1 : decide (q < 97) = false := decide_eq_false (by omega)
        have e2 : decide ((q : Int) < 97) = false := decide_eq_false (by omega)
        have e3 : decide (122 < q) = false := decide_eq_false (by omega)
        have e4 : decide ((122 : Int) < (q : Int)) = false := decide_eq_false (by omega)
        have HLW := Lib.hid hlow
        have HQ128 := Lib.hid (show q < 128 by omega)
        clear hlow hq
        go_wp2
        go_roundw
        case rel => exact ⟨i + 1, ⟨by omega, by rw [HSN.out]; unfold lowN; exact decide_eq_true HLW.out⟩, HQI.out HQ128.out, HQB.out⟩
        case measure =>
          have hm := HM.out
          have hm2 := iter_pos _ _ _ _ (HQI.out HQ128.out)
          omega
      · have hf : r = false := by rw [← HR.out, HNO.out (by unfold lowN; exact decide_eq_false hlow)]; rfl
        subst hf
        by_cases h97 : q < 97
        · have e1 : decide (q < 97) = true := decide_eq_true (by omega)
          have e2 : decide ((q : Int) < 97) = true := decide_eq_true (by omega)
          clear hlow hq
          go_wp2
          go_ret
          exact ⟨rfl, by first | exact HQB.out | (rw [hB]; exact HQB.out)⟩
        · have e1 : decide (q < 97) = false := decide_eq_false (by omega)
          have e2 : decide ((q : Int) < 97) = false := decide_eq_false (by omega)
          have e3 : decide (122 < q) = true := decide_eq_true (by omega)
          have e4 : decide ((122 : Int) < (q : Int)) = true := decide_eq_true (by omega)
          clear hlow hq
          go_wp2
          go_ret
          exact ⟨rfl, by first | exact HQB.out | (rw [hB]; exact HQB.out)⟩
    · have hnx : ∀ ty, (Instr.next (.pointer (some ⟨B, 0, none⟩)) true ty).run Try.prog wr = .ok (.tuple #[.bool false]) wr := fun ty => Lib.run_next_end_at wr B s i ty hit (by omega)
      have hall := ofN_all lowN (bl s) i HL.out (by rw [bl_len]; omega)
      rw [hall, Bool.true_and] at HR
      have HQB := Lib.hid hb
      clear hall hit hb
      by_cases h1 : 1 ≤ s.size
      · have d1 : decide (1 ≤ s.size) = true := decide_eq_true h1
        obtain ⟨em1, em2⟩ := empty_len h1
        have em3 : (s.toList != []) = true := by rw [bne, em2]; rfl
        rw [d1, Bool.true_and] at HR
        obtain ⟨q, hq⟩ : ∃ q, decide ((s.size : Int) ≤ 20) = q := ⟨_, rfl⟩
        rw [hq] at HR
        have hf : r = q := HR.out.symm
        subst hf
        clear d1 em2
        go_wp2
        go_ret
        exact ⟨rfl, by first | exact HQB.out | (rw [hB]; exact HQB.out)⟩
      · have d1 : decide (1 ≤ s.size) = false := decide_eq_false h1
        rw [d1, Bool.false_and] at HR
        have hf : r = false := HR.out.symm
        subst hf
        have hs : s = ⟨#[]⟩ := bl_ext (by have := bl_len s; apply List.length_eq_zero_iff.1; omega)
        have em1 : s.toList.isEmpty = true := by rw [toList_bl, hs]; rfl
        have em3 : (s.toList != []) = false := by rw [toList_bl, hs]; rfl
        clear hs d1
        go_wp2
        go_ret
        exact ⟨rfl, by first | exact HQB.out | (rw [hB]; exact HQB.out)⟩
end Go.Proofs.Ytofdfcngmkkfdaa

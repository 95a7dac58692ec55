/- digest.Show: digits written into a builder; digest.Sum. -/
import Derived.RangeFuncNested
import Derived.RangeFuncBound
import Derived.RangeFuncCalls
import Derived.RangeFuncLeaves
import Derived.Shelf.Abstract
import Derived.Shelf.RegionOpen
import Derived.WalkKit
import Derived.OwnWalkIn
import Derived.TacticsInMore
import Derived.LoopNIn
import Derived.LoopIn
import Derived.Outline
import Derived.Lib.Hide
import Derived.Lib.SliceRun
import Derived.IntWalk
import Derived.WalkLawsBesides
import Derived.WalkSpells
import Derived.Laws.BitsAllLaws
import Derived.Lib.ConvBytes
import Derived.Maps.AppendAt
import Derived.Lib.AppendStr
import Derived.Lib.SlBytesConst
import Derived.Laws.AppendOwnNone
import Derived.Laws.OwnMore
import Derived.Laws.BytesArg
import Derived.Deep.RegionHeld3
import Derived.BigQuiet
import Derived.Deep.RegionLaw
import Derived.Deep.QuietTactic
import Derived.Test.YtnepmhdnkcnnmaaProg
import Derived.Deep.DeepFit
import Derived.Test.YtnepmhdnkcnnmaaDgF
set_option linter.unusedVariables false
set_option linter.unusedSimpArgs false
namespace Go.Proofs.Ytnepmhdnkcnnmaa
open Go Go.RowKit Go.Shelf

abbrev pB (b : Nat) : Value := .pointer (some ⟨b, 0, none⟩)
/-- a digit's sign -/
def sgn (n : Nat) : UInt8 := ([48, 49, 50, 51, 52, 53, 54, 55, 56, 57, 97, 98, 99, 100, 101, 102] : List UInt8).getD n 0
def showL (h : List UInt8) : List UInt8 := h.flatMap fun c => [sgn (c.toNat / 16), sgn (c.toNat % 16)]
theorem showL_snoc (h : List UInt8) (c : UInt8) : showL (h ++ [c]) = showL h ++ [sgn (c.toNat / 16)] ++ [sgn (c.toNat % 16)] := by simp [showL]
theorem showL_length (h : List UInt8) : (showL h).length = 2 * h.length := by
  induction h with
  | nil => rfl
  | cons c h ih => simp [showL] at *; omega
theorem byteCells_snoc (l : List UInt8) (c : UInt8) : Lib.byteCells (l ++ [c]) = Lib.byteCells l ++ [.int .u8 (c.toNat : Int)] := by simp [Lib.byteCells]
theorem byteCells_len (l : List UInt8) : (Lib.byteCells l).length = l.length := by simp [Lib.byteCells]
theorem sgn_index (n : Nat) (hn : n < 16) (w : World) : (Instr.index 9 (.string ⟨#[48, 49, 50, 51, 52, 53, 54, 55, 56, 57, 97, 98, 99, 100, 101, 102]⟩) (.int .u8 (n : Int))).run Try.prog w = .ok (.int .u8 ((sgn n).toNat : Int)) w := by
  rw [run_index_string w 9 _ .u8 n Try.underlying9, dif_pos ⟨by omega, by show (n : Int) < ((16 : Nat) : Int); omega⟩]
  congr 2
  have h : n = 0 ∨ n = 1 ∨ n = 2 ∨ n = 3 ∨ n = 4 ∨ n = 5 ∨ n = 6 ∨ n = 7 ∨ n = 8 ∨ n = 9 ∨ n = 10 ∨ n = 11 ∨ n = 12 ∨ n = 13 ∨ n = 14 ∨ n = 15 := by omega
  rcases h with rfl | rfl | rfl | rfl | rfl | rfl | rfl | rfl | rfl | rfl | rfl | rfl | rfl | rfl | rfl | rfl <;> rfl
theorem and15 (c : Nat) (h : c < 256) : bits BinOp.and IntKind.u8 (c : Int) 15 = ((c % 16 : Nat) : Int) := by
  rw [show (15 : Int) = ((15 : Nat) : Int) from rfl, u8_and_nat _ _ h (by omega)]
  rw [show c &&& 15 = c % 16 from Nat.and_two_pow_sub_one_eq_mod c 4]

theorem SS_lit (w : World) (A : Option Addr) (n c : Nat) (l : List UInt8) (t : TypeId) (h : SB w (.slice A n c) l) : SS (w.alloc (.cells #[.slice A n c] t)) (.slice (some ⟨w.heap.size, 0, none⟩) 1 1) [l] := by
  refine .inr ⟨_, 1, rfl, by simp, fun _ => ⟨w.heap.size, 0, rfl, fun i hi => ⟨.slice A n c, ?_, ?_⟩⟩⟩
  · obtain rfl : i = 0 := by simpa using hi
    rw [(Row.new w #[.slice A n c] t).cell 0]; rfl
  · obtain rfl : i = 0 := by simpa using hi
    exact h.below ((Below.refl _ w).alloc (Nat.le_refl _) _)
set_option maxHeartbeats 1000000 in
set_option maxRecDepth 100000 in
/-- **digest.Sum** -/
theorem dsum_any (v : Value) (L : List UInt8) (w : World) (hv : SB w v L) (hmax : L.length ≤ 100000) :
    Calls Try.prog 30 #[v] w fun e w' => e = .returned (.agg (enc8 (sumL L)).toArray) ∧ Below w.heap.size w w' := by
  obtain ⟨A, c, rfl, hc1, hc2, -⟩ := hv.form
  have hr0 : Row (w.alloc (.cells #[.int .u8 0, .int .u8 0, .int .u8 0, .int .u8 0, .int .u8 0, .int .u8 0, .int .u8 0, .int .u8 0, .int .u8 0, .int .u8 0, .int .u8 0, .int .u8 0, .int .u8 0, .int .u8 0, .int .u8 0, .int .u8 0, .int .u8 0, .int .u8 0, .int .u8 0, .int .u8 0, .int .u8 0, .int .u8 0, .int .u8 0, .int .u8 0, .int .u8 0, .int .u8 0, .int .u8 0, .int .u8 0, .int .u8 0, .int .u8 0, .int .u8 0, .int .u8 0] 23)) w.heap.size 23 (enc8 (List.replicate 32 0)) := Row.new w _ _
  have hb0 : Below w.heap.size w (w.alloc (.cells #[.int .u8 0, .int .u8 0, .int .u8 0, .int .u8 0, .int .u8 0, .int .u8 0, .int .u8 0, .int .u8 0, .int .u8 0, .int .u8 0, .int .u8 0, .int .u8 0, .int .u8 0, .int .u8 0, .int .u8 0, .int .u8 0, .int .u8 0, .int .u8 0, .int .u8 0, .int .u8 0, .int .u8 0, .int .u8 0, .int .u8 0, .int .u8 0, .int .u8 0, .int .u8 0, .int .u8 0, .int .u8 0, .int .u8 0, .int .u8 0, .int .u8 0, .int .u8 0] 23)) := (Below.refl _ w).alloc (Nat.le_refl _) _
  have hv1 := hv.below hb0
  obtain ⟨wa, hwa⟩ : ∃ wa, w.alloc (.cells #[.int .u8 0, .int .u8 0, .int .u8 0, .int .u8 0, .int .u8 0, .int .u8 0, .int .u8 0, .int .u8 0, .int .u8 0, .int .u8 0, .int .u8 0, .int .u8 0, .int .u8 0, .int .u8 0, .int .u8 0, .int .u8 0, .int .u8 0, .int .u8 0, .int .u8 0, .int .u8 0, .int .u8 0, .int .u8 0, .int .u8 0, .int .u8 0, .int .u8 0, .int .u8 0, .int .u8 0, .int .u8 0, .int .u8 0, .int .u8 0, .int .u8 0, .int .u8 0] 23) = wa := ⟨_, rfl⟩
  have hwsz : wa.heap.size = w.heap.size + 1 := by rw [← hwa]; show (w.heap.push _).size = _; simp
  rw [hwa] at hr0 hb0 hv1
  have Hwa := Lib.hid hwa
  have hss := SS_lit wa A L.length c L 34 hv1
  have hj := join_any _ [L] _ hss (by simpa using hmax)
  rw [show ([L] : List (List UInt8)).flatten = L by simp] at hj
  obtain ⟨out, hout⟩ : ∃ out, sumL L = out := ⟨_, rfl⟩
  rw [hout, hwsz] at hj
  rw [hout]
  have hol : out.length = 32 := by rw [← hout]; exact sumL_length L
  have Hj := Lib.hid hj
  have R0 := Lib.hid hr0
  have HB0 := Lib.hid hb0
  have Hol := Lib.hid hol
  clear hv hr0 hb0 hv1 hss hj hwa hout hol
  go_enter Try.func30, Try.ntmps30
  go_wp2_with fail
  rw [Hwa.out]
  go_fit (Hj.out)
  rintro e wj ⟨rfl, hbj⟩
  have hbj' := hbj.mono (show wa.heap.size ≤ (wa.alloc (.cells #[.slice A L.length c] 34)).heap.size by simp)
  have R1 := Lib.hid ((R0.out.alloc (.cells #[.slice A L.length c] 34)).below hbj (by have := R0.out.lt; simp; omega))
  have RR := Lib.hid (R1.out.setRow (enc8 out))
  have hbz := (HB0.out.alloc (by have := HB0.out.size; exact this) (.cells #[.slice A L.length c] 34)).trans (hbj.mono (by have := HB0.out.size; simp; omega))
  have HBz := Lib.hid (below_setRow hbz (Nat.le_refl w.heap.size) (enc8 out).toArray)
  clear hbj hbj' hbz Hj R0 HB0
  go_wp2_with (refine R1.out.store (m := enc8 out) rfl 23 (.tmp 2) (.tmp 5) rfl rfl rfl (by rw [enc8_len, Hol.out]; kernel_rfl) (by rw [enc8_len, enc8_len, Hol.out, List.length_replicate]) (enc8_all _) ?_)
  refine bodyPost_ret (v := .agg (enc8 out).toArray) (RR.out.result Try.results30 _ _ _ rfl Try.underlying23 (by rw [enc8_len, Hol.out]; kernel_rfl)) rfl ?_
  exact ⟨rfl, HBz.out⟩
end Go.Proofs.Ytnepmhdnkcnnmaa

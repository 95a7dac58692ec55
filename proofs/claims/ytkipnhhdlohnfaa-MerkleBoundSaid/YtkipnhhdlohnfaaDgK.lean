/- Sums are compared. -/
import Derived.RangeFuncNested
import Derived.RangeFuncBound
import Derived.RangeFuncCalls
import Derived.RangeFuncLeaves
import Derived.Shelf.Abstract
import Derived.Shelf.RegionOpen
import Derived.WalkKit
import Derived.OwnWalkIn
import Derived.TacticsInMore
import Derived.LoopNIn
import Derived.LoopIn
import Derived.Outline
import Derived.Lib.Hide
import Derived.Lib.SliceRun
import Derived.IntWalk
import Derived.WalkLawsBesides
import Derived.WalkSpells
import Derived.Laws.BitsAllLaws
import Derived.Lib.ConvBytes
import Derived.Maps.AppendAt
import Derived.Lib.AppendStr
import Derived.Lib.SlBytesConst
import Derived.Laws.AppendOwnNone
import Derived.Laws.OwnMore
import Derived.Laws.BytesArg
import Derived.Deep.RegionHeld3
import Derived.BigQuiet
import Derived.Deep.RegionLaw
import Derived.Deep.QuietTactic
import Derived.Test.YtkipnhhdlohnfaaProg
import Derived.Test.YtkipnhhdlohnfaaDgJ
import Derived.Test.YtkipnhhdlohnfaaDgI
set_option linter.unusedVariables false
set_option linter.unusedSimpArgs false
namespace Go.Proofs.Ytkipnhhdlohnfaa
open Go Go.RowKit Go.Shelf

theorem run_part_u8 (l : List UInt8) (i : Nat) (hi : i < l.length) (w : World) : (Go.part 5 (enc8 l).toArray i).run Try.prog w = .ok (.int .u8 (gb l i : Int)) w := by
  have h := enc8_get l i hi
  unfold Go.part
  simp [Sem.run_bind, Try.isAgg5, Try.sizeOf5, h]
theorem all_eq (a b : List UInt8) (ha : a.length = 32) (hb : b.length = 32) : ((List.range' 0 32 1).all fun i => ((gb a i : Int) == (gb b i : Int))) = (a == b) := by
  rw [Bool.eq_iff_iff, List.all_eq_true, beq_iff_eq]
  constructor
  · intro h
    apply List.ext_getElem (by omega)
    intro i h1 h2
    have := h i (by simp; omega)
    simp only [beq_iff_eq, Int.natCast_inj] at this
    unfold gb at this
    rw [List.getElem?_eq_getElem h1, List.getElem?_eq_getElem h2] at this
    exact UInt8.toNat_inj.1 this
  · rintro rfl i _
    simp
theorem run_equal_bytes (d : Nat) (a b : List UInt8) (ha : a.length = 32) (hb : b.length = 32) (w : World) :
    (Op.equalIn (d + 2) 24 (.agg (enc8 a).toArray) (.agg (enc8 b).toArray)).run Try.prog w = .ok (a == b) w := by
  rw [← all_eq a b ha hb]
  have hu : Try.prog.underlying 24 = some (.array 32 5) := Try.underlying24
  rw [Op.equalIn]
  simp only [Sem.run_bind, run_underlying hu, Result.andThen_ok, Try.sizeOf5, Std.Legacy.Range.forIn_eq_forIn_range', Std.Legacy.Range.size, Nat.mul_one]
  have hr : ∀ i ∈ List.range' 0 32 1, i < 32 := by intro i hi; simp at hi; omega
  simp only [Nat.sub_zero, Nat.add_sub_cancel, Nat.div_one]
  generalize List.range' 0 32 1 = is at hr ⊢
  induction is generalizing w with
  | nil => simp
  | cons i is ih =>
    have hi : i < 32 := hr i (by simp)
    have ih' := fun w => ih w (fun j hj => hr j (by simp [hj]))
    simp only [List.forIn_cons, Sem.run_bind, Sem.run_ite, run_part_u8 a i (by omega), run_part_u8 b i (by omega), Result.andThen_ok, run_equalIn_int w d 5 .u8 .u8 _ _ Try.underlying5, List.all_cons]
    cases hh : ((gb a i : Int) == (gb b i : Int)) with
    | false => simp
    | true =>
      simp only [Bool.not_true, Bool.false_eq_true, if_false, Sem.run_pure, Result.andThen_ok, Bool.true_and]
      exact ih' w
/-- two sums are compared -/
theorem run_eql_sum (a b : List UInt8) (ha : a.length = 32) (hb : b.length = 32) (w : World) :
    (binOp .eql 24 (.agg (enc8 a).toArray) (.agg (enc8 b).toArray)).run Try.prog w = .ok (.bool (a == b)) w := by
  rw [run_eql_struct, show (10000 : Nat) = 9998 + 2 from rfl, run_equal_bytes 9998 a b ha hb]
  rfl
theorem run_neq_sum (a b : List UInt8) (ha : a.length = 32) (hb : b.length = 32) (w : World) :
    (binOp .neq 24 (.agg (enc8 a).toArray) (.agg (enc8 b).toArray)).run Try.prog w = .ok (.bool (!(a == b))) w := by
  rw [run_neq_struct, show (10000 : Nat) = 9998 + 2 from rfl, run_equal_bytes 9998 a b ha hb]
  rfl
theorem show_abc : showL (sumL [97, 98, 99]) = [98, 97, 55, 56, 49, 54, 98, 102, 56, 102, 48, 49, 99, 102, 101, 97, 52, 49, 52, 49, 52, 48, 100, 101, 53, 100, 97, 101, 50, 50, 50, 51, 98, 48, 48, 51, 54, 49, 97, 51, 57, 54, 49, 55, 55, 97, 57, 99, 98, 52, 49, 48, 102, 102, 54, 49, 102, 50, 48, 48, 49, 53, 97, 100] := by
  rw [sum_abc]; decide +kernel

set_option maxHeartbeats 1000000 in
set_option maxRecDepth 100000 in
/-- **the example of layer 4** -/
theorem awake04_any (w : World) : Calls Try.prog 14 #[] w fun e w' => e = .returned (.bool true) ∧ Below w.heap.size w w' := by
  have hA := SB_mark w #[.int .u8 97, .int .u8 98, .int .u8 99] [97, 98, 99] 3 (3, 4) rfl (by simp) rfl
  have hB0 : Below w.heap.size w (w.alloc (.cells #[.int .u8 97, .int .u8 98, .int .u8 99] 5 (3, 4))) := (Below.refl _ _).alloc (Nat.le_refl _) _
  have kc := fun (w : World) (C : Array Value) (n c : Nat) => Lib.run_convert_bytes_const (P := Try.prog) w 22 5 C n c Try.underlying22 Try.underlying5
  have hsa := show_abc
  have hl := sumL_length [97, 98, 99]
  have hd := fun (w : World) h => dsum_any (.slice (some ⟨w.heap.size, 0, none⟩) 3 3) [97, 98, 99] (w.alloc (.cells #[.int .u8 97, .int .u8 98, .int .u8 99] 5 (3, 4))) h (by simp)
  obtain ⟨sm, hsm⟩ : ∃ sm, sumL [97, 98, 99] = sm := ⟨_, rfl⟩
  rw [hsm] at hsa hl
  simp only [hsm] at hd
  have Hsa := Lib.hid hsa
  have Hl := Lib.hid hl
  have Hd := Lib.hid (hd w hA)
  clear hsa hl hsm hd hA
  go_enter Try.func14, Try.ntmps14
  go_wp2_with fail
  go_fit (Hd.out)
  rintro e w1 ⟨rfl, hb1⟩
  have Hb1 := Lib.hid (hB0.trans (hb1.mono hB0.size))
  clear hb1 hB0 Hd
  go_wp2_with fail
  refine (show_any sm Hl.out w1).mono ?_
  rintro e w2 ⟨rfl, hb2⟩
  have Hb2 := Lib.hid (Hb1.out.trans (hb2.mono Hb1.out.size))
  rw [Hsa.out]
  clear hb2 Hb1
  go_wp2
  go_ret
  exact ⟨rfl, Hb2.out⟩

set_option maxHeartbeats 1000000 in
set_option maxRecDepth 100000 in
theorem digestSums_walk (v : Value) (l : List UInt8) (w : World) (h : SB w v l) :
    Calls Try.prog 3 #[v] w fun e w' => e = .returned (.bool true) ∧ Below w.heap.size w w' := by
  obtain ⟨A, c, rfl, hc1, hc2, -⟩ := h.form
  have H := Lib.hid h
  clear h
  by_cases hn : l.length ≤ 2000
  · have hdec : decide ((2000 : Int) < (l.length : Int)) = false := by simp; omega
    have hdec2 : decide (2000 < l.length) = false := by simp; omega
    go_enter Try.func3, Try.ntmps3
    go_wp2_with fail
    refine (awake04_any _).mono ?_
    rintro e w1 ⟨rfl, hb1⟩
    go_wp2_with fail
    refine (dsum_any _ l w1 (H.out.below hb1) (by omega)).mono ?_
    rintro e w2 ⟨rfl, hb2⟩
    have hb2' := hb1.trans (hb2.mono hb1.size)
    go_wp2_with fail
    refine (rsum_any _ l w2 (H.out.below hb2') (by omega)).mono ?_
    rintro e w3 ⟨rfl, hb3⟩
    have hb3' := Lib.hid (hb2'.trans (hb3.mono hb2'.size))
    have heq := fun w => run_eql_sum (sumL l) (sumL l) (sumL_length l) (sumL_length l) w
    simp only [beq_self_eq_true] at heq
    obtain ⟨out, hout⟩ : ∃ out, sumL l = out := ⟨_, rfl⟩
    rw [hout] at heq ⊢
    clear hout hb1 hb2 hb3 hb2'
    go_wp2
    go_ret
    exact ⟨rfl, hb3'.out⟩
  · have hdec : decide ((2000 : Int) < (l.length : Int)) = true := by simp; omega
    have hdec2 : decide (2000 < l.length) = true := by simp; omega
    go_enter Try.func3, Try.ntmps3
    go_wp2_with fail
    refine (awake04_any _).mono ?_
    rintro e w1 ⟨rfl, hb1⟩
    go_wp2
    go_ret
    exact ⟨rfl, hb1⟩
end Go.Proofs.Ytkipnhhdlohnfaa

/- Plain: what the reference says of a proof that the first are the beginning. -/
import Derived.RangeFuncNested
import Derived.RangeFuncBound
import Derived.RangeFuncCalls
import Derived.RangeFuncLeaves
import Derived.Shelf.Abstract
import Derived.Shelf.RegionOpen
import Derived.WalkKit
import Derived.OwnWalkIn
import Derived.TacticsInMore
import Derived.LoopNIn
import Derived.LoopIn
import Derived.Outline
import Derived.Lib.Hide
import Derived.Lib.SliceRun
import Derived.IntWalk
import Derived.WalkLawsBesides
import Derived.WalkSpells
import Derived.Laws.BitsAllLaws
import Derived.Lib.ConvBytes
import Derived.Maps.AppendAt
import Derived.Lib.AppendStr
import Derived.Lib.SlBytesConst
import Derived.Laws.AppendOwnNone
import Derived.Laws.OwnMore
import Derived.Laws.BytesArg
import Derived.Deep.RegionHeld3
import Derived.BigQuiet
import Derived.Deep.RegionLaw
import Derived.Deep.QuietTactic
import Derived.Lib.OthersKept
import Derived.Test.YtkipnhhdlohnfaaProg
import Derived.Deep.DeepFit
import Derived.Test.YtkipnhhdlohnfaaMkT
set_option linter.unusedVariables false
set_option linter.unusedSimpArgs false
namespace Go.Proofs.Ytkipnhhdlohnfaa
open Go Go.RowKit Go.Shelf

/-- whether there are as many sums as there must be -/
def bOk (n m : Nat) (wh : Bool) (ps : List (List UInt8)) : Bool := decide (((gR n m wh).2 = true ∨ ps ≠ []) ∧ (rest0 (gR n m wh).2 ps).length = (gR n m wh).1.length)
/-- both roots -/
def bTwo (n m : Nat) (wh : Bool) (old : List UInt8) (ps : List (List UInt8)) : List UInt8 × List UInt8 := two (gR n m wh).1.reverse (rest0 (gR n m wh).2 ps) (part0 (gR n m wh).2 old ps) (rest0 (gR n m wh).2 ps).length
theorem bOk_whole (n : Nat) (ps : List (List UInt8)) : bOk n n true ps = decide (ps.length = 0) := by
  unfold bOk
  rw [gR_end _ _ _ (by omega)]
  simp [rest0]
theorem bTwo_whole (n : Nat) (old : List UInt8) (ps : List (List UInt8)) (h : bOk n n true ps = true) : bTwo n n true old ps = (old, old) := by
  rw [bOk_whole] at h
  obtain rfl : ps = [] := List.length_eq_zero_iff.1 (of_decide_eq_true h)
  unfold bTwo
  rw [gR_end _ _ _ (by omega)]
  rfl
theorem bOk_part (n : Nat) (ps : List (List UInt8)) : bOk n n false ps = decide (ps.length = 1) := by
  unfold bOk
  rw [gR_end _ _ _ (by omega)]
  match ps with
  | [] => rfl
  | [p] => simp [rest0]
  | p :: q :: t => simp [rest0]
theorem bTwo_part (n : Nat) (old p : List UInt8) : bTwo n n false old [p] = (p, p) := by
  unfold bTwo
  rw [gR_end _ _ _ (by omega)]
  rfl
theorem bOk_none (n m : Nat) (wh : Bool) (h : 1 ≤ m ∧ m < n) : bOk n m wh [] = false := by
  unfold bOk
  refine decide_eq_false fun hh => ?_
  have h2 := hh.2
  have : (rest0 (gR n m wh).2 ([] : List (List UInt8))).length = 0 := by unfold rest0; split <;> rfl
  rw [this] at h2
  by_cases hi : m ≤ hlf n
  · rw [gR_left _ _ _ h hi] at h2; simp at h2
  · rw [gR_right _ _ _ h hi] at h2; simp at h2
theorem ok_app (w2 t : Bool) (R : List Bool) (qs : List (List UInt8)) (p : List UInt8) :
    decide ((w2 = true ∨ qs ++ [p] ≠ []) ∧ (rest0 w2 (qs ++ [p])).length = (t :: R).length) = decide ((w2 = true ∨ qs ≠ []) ∧ (rest0 w2 qs).length = R.length) := by
  rw [decide_eq_decide]
  cases w2 with
  | true => simp [rest0]
  | false =>
    match qs with
    | [] => simp [rest0]
    | x :: t => simp [rest0]
theorem bOk_left (n m : Nat) (wh : Bool) (qs : List (List UInt8)) (p : List UInt8) (h : 1 ≤ m ∧ m < n) (hi : m ≤ hlf n) : bOk n m wh (qs ++ [p]) = bOk (hlf n) m wh qs := by
  unfold bOk
  rw [gR_left _ _ _ h hi]
  exact ok_app _ _ _ _ _
theorem bOk_right (n m : Nat) (wh : Bool) (qs : List (List UInt8)) (p : List UInt8) (h : 1 ≤ m ∧ m < n) (hi : ¬ m ≤ hlf n) : bOk n m wh (qs ++ [p]) = bOk (n - hlf n) (m - hlf n) false qs := by
  unfold bOk
  rw [gR_right _ _ _ h hi]
  exact ok_app _ _ _ _ _
theorem two_app (w2 t : Bool) (R : List Bool) (old : List UInt8) (qs : List (List UInt8)) (p : List UInt8) (h : decide ((w2 = true ∨ qs ≠ []) ∧ (rest0 w2 qs).length = R.length) = true) :
    two (t :: R).reverse (rest0 w2 (qs ++ [p])) (part0 w2 old (qs ++ [p])) (rest0 w2 (qs ++ [p])).length =
      if t = true then (nodeL p (two R.reverse (rest0 w2 qs) (part0 w2 old qs) (rest0 w2 qs).length).1, nodeL p (two R.reverse (rest0 w2 qs) (part0 w2 old qs) (rest0 w2 qs).length).2) else ((two R.reverse (rest0 w2 qs) (part0 w2 old qs) (rest0 w2 qs).length).1, nodeL (two R.reverse (rest0 w2 qs) (part0 w2 old qs) (rest0 w2 qs).length).2 p) := by
  have h := of_decide_eq_true h
  obtain ⟨b1, b2⟩ := part0_app w2 old p qs (fun hw => h.1.resolve_left (by rw [hw]; decide))
  rw [b1, b2]
  exact two_top t R _ _ p h.2.symm
theorem bTwo_left (n m : Nat) (wh : Bool) (old : List UInt8) (qs : List (List UInt8)) (p : List UInt8) (h : 1 ≤ m ∧ m < n) (hi : m ≤ hlf n) (ho : bOk (hlf n) m wh qs = true) :
    bTwo n m wh old (qs ++ [p]) = ((bTwo (hlf n) m wh old qs).1, nodeL (bTwo (hlf n) m wh old qs).2 p) := by
  unfold bTwo
  rw [gR_left _ _ _ h hi]
  exact two_app _ false _ old qs p ho
theorem bTwo_right (n m : Nat) (wh : Bool) (old : List UInt8) (qs : List (List UInt8)) (p : List UInt8) (h : 1 ≤ m ∧ m < n) (hi : ¬ m ≤ hlf n) (ho : bOk (n - hlf n) (m - hlf n) false qs = true) :
    bTwo n m wh old (qs ++ [p]) = (nodeL p (bTwo (n - hlf n) (m - hlf n) false old qs).1, nodeL p (bTwo (n - hlf n) (m - hlf n) false old qs).2) := by
  unfold bTwo
  rw [gR_right _ _ _ h hi]
  exact two_app _ true _ old qs p ho
theorem grB_two (old root : List UInt8) (m n : Nat) (ps : List (List UInt8)) (h1 : 1 ≤ m) (h2 : m ≤ n) : grB old root m n ps = (if bOk n m true ps = true then (bTwo n m true old ps).1 == old && (bTwo n m true old ps).2 == root else false) := by
  unfold grB bOk bTwo
  simp only [Int.toNat_natCast, decide_eq_true_eq]
  rw [if_pos ⟨by omega, by omega⟩]
end Go.Proofs.Ytkipnhhdlohnfaa

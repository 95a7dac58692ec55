/- merkle.Grown, over all numbers. -/
import Derived.RangeFuncNested
import Derived.RangeFuncBound
import Derived.RangeFuncCalls
import Derived.RangeFuncLeaves
import Derived.Shelf.Abstract
import Derived.Shelf.RegionOpen
import Derived.WalkKit
import Derived.OwnWalkIn
import Derived.TacticsInMore
import Derived.LoopNIn
import Derived.LoopIn
import Derived.Outline
import Derived.Lib.Hide
import Derived.Lib.SliceRun
import Derived.IntWalk
import Derived.WalkLawsBesides
import Derived.WalkSpells
import Derived.Laws.BitsAllLaws
import Derived.Lib.ConvBytes
import Derived.Maps.AppendAt
import Derived.Lib.AppendStr
import Derived.Lib.SlBytesConst
import Derived.Laws.AppendOwnNone
import Derived.Laws.OwnMore
import Derived.Laws.BytesArg
import Derived.Deep.RegionHeld3
import Derived.BigQuiet
import Derived.Deep.RegionLaw
import Derived.Deep.QuietTactic
import Derived.Lib.OthersKept
import Derived.Test.YtkipnhhdlohnfaaProg
import Derived.Deep.DeepFit
import Derived.Test.YtkipnhhdlohnfaaMkS
set_option linter.unusedVariables false
set_option linter.unusedSimpArgs false
namespace Go.Proofs.Ytkipnhhdlohnfaa
open Go Go.RowKit Go.Shelf

set_option maxHeartbeats 2000000 in
set_option maxRecDepth 100000 in
theorem grown_out (old root : List UInt8) (m n : Int) (pv : Value) (w : World) (hi : ¬ (1 ≤ m ∧ m ≤ n)) :
    Calls Try.prog 38 #[.agg (enc8 old).toArray, .int .i64 m, .agg (enc8 root).toArray, .int .i64 n, pv] w fun e w' => e = .returned (.bool false) ∧ Below w.heap.size w w' := by
  obtain ⟨W, A, hW, hA, hsz, r0, r1, hm⟩ := two_boxed w (enc8 old) (enc8 root)
  obtain ⟨ar, har⟩ : ∃ ar, enc8 old = ar := ⟨_, rfl⟩
  obtain ⟨al, hal⟩ : ∃ al, enc8 root = al := ⟨_, rfl⟩
  rw [har, hal] at hW ⊢
  have HB : Hid (Below w.heap.size w ((w.alloc (.cells ar.toArray 24)).alloc (.cells al.toArray 24))) := by unfold Hid; rw [hW, hA]; exact hm.bel
  clear hW hA hsz r0 r1 hm har hal
  by_cases h0 : 1 ≤ m
  · have h1 : n < m := by omega
    have d0 : decide (m < 1) = false := decide_eq_false (by omega)
    have d1 : decide (n < m) = true := decide_eq_true h1
    clear hi
    go_enter Try.func38, Try.ntmps38
    go_wp2
    go_ret
    exact ⟨rfl, HB.out⟩
  · have d0 : decide (m < 1) = true := decide_eq_true (by omega)
    clear hi
    go_enter Try.func38, Try.ntmps38
    go_wp2
    go_ret
    exact ⟨rfl, HB.out⟩
/-- whether sums show that the first m are the beginning of n -/
def grB (old root : List UInt8) (m n : Int) (ps : List (List UInt8)) : Bool :=
  if 1 ≤ m ∧ m ≤ n then
    (if ((gR n.toNat m.toNat true).2 = true ∨ ps ≠ []) ∧ (rest0 (gR n.toNat m.toNat true).2 ps).length = (gR n.toNat m.toNat true).1.length then
      ((two (gR n.toNat m.toNat true).1.reverse (rest0 (gR n.toNat m.toNat true).2 ps) (part0 (gR n.toNat m.toNat true).2 old ps) (rest0 (gR n.toNat m.toNat true).2 ps).length).1 == old && (two (gR n.toNat m.toNat true).1.reverse (rest0 (gR n.toNat m.toNat true).2 ps) (part0 (gR n.toNat m.toNat true).2 old ps) (rest0 (gR n.toNat m.toNat true).2 ps).length).2 == root) else false)
  else false
/-- **merkle.Grown** -/
theorem grown_any (old root : List UInt8) (m n : Int) (pv : Value) (ps : List (List UInt8)) (w : World) (ho : old.length = 32) (hr : root.length = 32) (hv : HS w pv ps) (hn : n ≤ 9223372036854775807) (hmax : ps.length ≤ 1000) :
    Calls Try.prog 38 #[.agg (enc8 old).toArray, .int .i64 m, .agg (enc8 root).toArray, .int .i64 n, pv] w fun e w' => e = .returned (.bool (grB old root m n ps)) ∧ Below w.heap.size w w' := by
  by_cases h : 1 ≤ m ∧ m ≤ n
  · obtain ⟨j, rfl⟩ : ∃ j : Nat, m = j := ⟨m.toNat, by omega⟩
    obtain ⟨p, rfl⟩ : ∃ p : Nat, n = p := ⟨n.toNat, by omega⟩
    refine grown_in old root j p pv ps w ho hr hv (by omega) (by omega) (by omega) hmax _ _ rfl _ ?_
    unfold grB
    simp only [Int.toNat_natCast]
    rw [if_pos h]
  · have : grB old root m n ps = false := by unfold grB; rw [if_neg h]
    rw [this]
    exact grown_out old root m n pv w h
end Go.Proofs.Ytkipnhhdlohnfaa

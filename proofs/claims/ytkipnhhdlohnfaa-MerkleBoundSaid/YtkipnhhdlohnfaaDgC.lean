/- The primes, the rounds' numbers, where all begins. -/
import Derived.RangeFuncNested
import Derived.RangeFuncBound
import Derived.RangeFuncCalls
import Derived.RangeFuncLeaves
import Derived.Shelf.Abstract
import Derived.Shelf.RegionOpen
import Derived.WalkKit
import Derived.OwnWalkIn
import Derived.TacticsInMore
import Derived.LoopNIn
import Derived.LoopIn
import Derived.Outline
import Derived.Lib.Hide
import Derived.Lib.SliceRun
import Derived.IntWalk
import Derived.WalkLawsBesides
import Derived.WalkSpells
import Derived.Laws.BitsAllLaws
import Derived.Lib.ConvBytes
import Derived.Maps.AppendAt
import Derived.Lib.AppendStr
import Derived.Lib.SlBytesConst
import Derived.Laws.AppendOwnNone
import Derived.Laws.OwnMore
import Derived.Laws.BytesArg
import Derived.Deep.RegionHeld3
import Derived.BigQuiet
import Derived.Deep.RegionLaw
import Derived.Deep.QuietTactic
import Derived.Test.YtkipnhhdlohnfaaProg
import Derived.WalkMore
import Derived.Deep.LoopGhost
import Derived.Test.YtkipnhhdlohnfaaDgB
set_option linter.unusedVariables false
set_option linter.unusedSimpArgs false
namespace Go.Proofs.Ytkipnhhdlohnfaa
open Go Go.RowKit Go.Shelf

def encU (l : List Nat) : List Value := l.map fun p : Nat => .int .u64 (p : Int)
theorem encU_length (l : List Nat) : (encU l).length = l.length := by simp [encU]
theorem encU_get (l : List Nat) (i : Nat) (h : i < l.length) : (encU l)[i]? = some (.int .u64 ((l[i]?.getD 0 : Nat) : Int)) := by simp [encU, h]
theorem infoU : (Try.prog.info? 53).map (fun i => (i.zero, i.size, i.bytes)) = some (some (.int .u64 0), 1, 8) := by kernel_rfl
theorem pb_pos : ∀ k q, q ∈ pb k → 0 < q
  | 0, q, h => by simp [pb] at h
  | k + 1, q, h => by
    rw [pb] at h
    split at h
    · exact pb_pos k q h
    · rcases List.mem_append.1 h with h | h
      · exact pb_pos k q h
      · simp at h; omega
theorem pb_len : ∀ k, (pb k).length ≤ k
  | 0 => by simp [pb]
  | k + 1 => by
    have := pb_len k
    rw [pb]
    split
    · omega
    · simp; omega
theorem pb_le : ∀ k q, q ∈ pb k → q ≤ k + 1
  | 0, q, h => by simp [pb] at h
  | k + 1, q, h => by
    rw [pb] at h
    split at h
    · have := pb_le k q h; omega
    · rcases List.mem_append.1 h with h | h
      · have := pb_le k q h; omega
      · simp at h; omega

set_option maxRecDepth 100000 in
set_option maxHeartbeats 1000000 in
/-- digest.primes -/
theorem primes_any (n : Nat) (hn : n ≤ 64) (w : World) :
    Calls Try.prog 59 #[.int .i64 (n : Int)] w fun e w' => ∃ v, e = .returned v ∧ OV w' w.heap.size 53 v (encU (PN.take n)) ∧ Below w.heap.size w w' := by
  obtain ⟨i0, hi, hz0, hz1, hz2⟩ := info_parts infoU
  go_enter Try.func59, Try.ntmps59
  go_wp2
  go_step3
  go_wp2
  go_step3
  go_wp2
  go_loopg [3, 4] 310 (fun g v p wr => ∃ k : Nat, k + g = 310 ∧ p = .int .u64 ((k + 2 : Nat) : Int) ∧ (pb k).length ≤ n ∧ OV wr w.heap.size 53 v (encU (pb k)) ∧ Below w.heap.size w wr)
  case atStart => exact ⟨0, rfl, rfl, by simp [pb], OV.nil _ _ _, Below.refl _ _⟩
  case round =>
    obtain ⟨k, hkg, rfl, hk, hrow, hB⟩ := hrel
    obtain ⟨A, c, rfl, ⟨hc1, hc2⟩, hcell⟩ := hrow.reads
    obtain ⟨len, hlen⟩ : ∃ len, (pb k).length = len := ⟨_, rfl⟩
    rw [encU_length, hlen] at hc1 hcell hrow ⊢
    rw [hlen] at hk
    have Hrow := Lib.hid hrow
    have HB := Lib.hid hB
    have Hcell := Lib.hid hcell
    have Hlen := Lib.hid hlen
    clear hrow hB hcell hlen
    by_cases hlt : len < n
    · have hg : gk ≠ 0 := by
        rintro rfl
        have : k = 310 := by omega
        have e := Hlen.out
        rw [this, pb_all] at e
        have : PN.length = 64 := by decide +kernel
        omega
      obtain ⟨g, rfl⟩ : ∃ g, gk = g + 1 := ⟨gk - 1, by omega⟩
      clear hg
      go_wp2
      go_loopg [15] len (fun h q wx => ∃ j : Nat, j + h = len ∧ q = .int .i64 (j : Int) ∧ wx = wr ∧ Hid (∀ i, i < j → ((k + 2) % ((pb k)[i]?.getD 0) == 0) = false))
      case atStart => exact ⟨0, by omega, rfl, rfl, fun i hi => absurd hi (Nat.not_lt_zero _)⟩
      case round =>
        obtain ⟨j, hjh, rfl, rfl, hno⟩ := hrel
        by_cases hj : j < len
        · obtain ⟨h, rfl⟩ : ∃ h, gk = h + 1 := ⟨gk - 1, by omega⟩
          obtain ⟨b, o, rfl, hc⟩ := Hcell.out j hj
          rw [encU_get _ _ (by rw [Hlen.out]; exact hj)] at hc
          have hq0 : 0 < (pb k)[j]?.getD 0 := by
            rw [List.getElem?_eq_getElem (by rw [Hlen.out]; exact hj)]
            exact pb_pos k _ (List.getElem_mem _)
          obtain ⟨q, hqe⟩ : ∃ q, (pb k)[j]?.getD 0 = q := ⟨_, rfl⟩
          rw [hqe] at hc hq0
          have Hq := Lib.hid hqe
          have hq1 : ¬ ((q : Int) = 0) := by omega
          have hmod : ((k : Int) + 2) % (q : Int) = (((k + 2) % q : Nat) : Int) := (Int.natCast_emod (k + 2) q).symm
          clear hqe
          by_cases hdiv : (k + 2) % q = 0
          · have hnext : Hid (pb (k + 1) = pb k) := by
              unfold Hid
              rw [pb, if_pos]
              rw [List.any_eq_true]
              refine ⟨q, ?_, by simp [hdiv]⟩
              rw [← Hq.out, List.getElem?_eq_getElem (by rw [Hlen.out]; exact hj)]
              exact List.getElem_mem _
            have hd : (((k : Int) + 2) % (q : Int) == 0) = true := by rw [hmod, hdiv]; rfl
            clear hmod hdiv
            go_wp2
            go_roundg g
            case rel => exact ⟨k + 1, by omega, by go_num, by rw [hnext.out, Hlen.out]; omega, by rw [hnext.out]; exact Hrow.out, HB.out⟩
            exact Nat.lt_succ_self _
          · have hd : (((k : Int) + 2) % (q : Int) == 0) = false := by rw [hmod]; simp; omega
            have hno' : Hid (∀ i, i < j + 1 → ((k + 2) % ((pb k)[i]?.getD 0) == 0) = false) := by
              intro i hi
              by_cases e : i = j
              · subst e; rw [Hq.out]; exact beq_false_of_ne hdiv
              · exact hno.out i (by omega)
            clear hmod hdiv
            go_wp2
            go_roundg h
            case rel => exact ⟨j + 1, by omega, by go_num, rfl, hno'⟩
            exact Nat.lt_succ_self _
        · have hnext : Hid (pb (k + 1) = pb k ++ [k + 2]) := by
            unfold Hid
            rw [pb, if_neg]
            rw [List.any_eq_true]
            rintro ⟨q, hq, he⟩
            obtain ⟨i, hi, rfl⟩ := List.getElem_of_mem hq
            have := hno.out i (by rw [Hlen.out] at hi; omega)
            rw [List.getElem?_eq_getElem hi] at this
            simp only [Option.getD_some] at this
            rw [this] at he; cases he
          have hrow : wr.ownsRow w.heap.size 53 1 (.slice A len c) len (encU (pb k)) := by
            have := Hrow.out
            unfold OV at this
            rw [encU_length, Hlen.out] at this
            exact this
          have Hrow1 := Lib.hid hrow
          clear hrow hno
          go_wp2_with (at_builtin; refine wpList_append_own _ rfl _ _ 86 rfl w.heap.size 53 i0 (.int .u64 0) 1 8 Try.underlying86 hi hz0 hz1 hz2 rfl (by decide) _ _ _ rfl (Hrow1.out.alloc _) ⟨wr.heap.size, 0, none⟩ 1 1 [.int .u64 _] rfl rfl (cell_one_new _ _ _) (by simp [Value.oneCell']) (by unfold maxLen; omega) (by omega) (by have := HB.out.size; simp; omega) ?_; intro v' w1 hown' hgrow _)
          have hB1 := ((HB.out.alloc HB.out.size _).grown hgrow (by have := HB.out.size; simp; omega) (fun j hj => (Hrow1.out.lt j hj).1))
          have hO : OV w1 w.heap.size 53 v' (encU (pb (k + 1))) := by
            unfold OV
            rw [hnext.out, encU_length, List.length_append, Hlen.out]
            have e : encU (pb k ++ [k + 2]) = encU (pb k) ++ [.int .u64 ((k : Int) + 2)] := by simp [encU]
            rw [e]
            exact hown'
          have HO := Lib.hid hO
          have HB1 := Lib.hid hB1
          clear hown' hgrow hB1 hO
          go_wp2
          go_roundg g
          case rel => exact ⟨k + 1, by omega, by go_num, by rw [hnext.out, List.length_append, Hlen.out]; simp; omega, HO.out, HB1.out⟩
          exact Nat.lt_succ_self _
    · have hln : len = n := by omega
      have hend : Hid (pb k = PN.take n) := pb_take k n (by rw [Hlen.out, hln]) (by omega)
      go_wp2
      try rw [Exit.noGoto_ret]
      go_ret
      exact ⟨_, rfl, by rw [← hend.out]; have := Hrow.out; exact this, HB.out⟩
end Go.Proofs.Ytkipnhhdlohnfaa

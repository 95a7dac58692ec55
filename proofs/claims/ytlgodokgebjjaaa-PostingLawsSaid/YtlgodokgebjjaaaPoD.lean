/- posting.Of -/
import Derived.RangeFuncNested
import Derived.RangeFuncBound
import Derived.RangeFuncCalls
import Derived.RangeFuncLeaves
import Derived.Shelf.Abstract
import Derived.Shelf.RegionOpen
import Derived.WalkKit
import Derived.OwnWalkIn
import Derived.TacticsInMore
import Derived.LoopNIn
import Derived.LoopIn
import Derived.Outline
import Derived.Lib.Hide
import Derived.Lib.SliceRun
import Derived.IntWalk
import Derived.WalkLawsBesides
import Derived.WalkSpells
import Derived.Laws.BitsAllLaws
import Derived.Lib.ConvBytes
import Derived.Maps.AppendAt
import Derived.Lib.AppendStr
import Derived.Lib.SlBytesConst
import Derived.Laws.AppendOwnNone
import Derived.Laws.OwnMore
import Derived.Laws.BytesArg
import Derived.Deep.RegionHeld3
import Derived.BigQuiet
import Derived.Deep.RegionLaw
import Derived.Deep.QuietTactic
import Derived.Lib.OthersKept
import Derived.Test.YtlgodokgebjjaaaProg
import Derived.Deep.DeepFit
import Derived.Sort.OwnSortedInts
import Derived.Test.YtlgodokgebjjaaaPoC
import Derived.Test.YtlgodokgebjjaaaPoShelf
set_option linter.unusedVariables false
set_option linter.unusedSimpArgs false
namespace Go.Proofs.Ytlgodokgebjjaaa
open Go Go.RowKit Go.Shelf Go.Sort

theorem compUp (zs : List Int) (hs : zs.Pairwise (· ≤ ·)) : ∀ m, m ≤ zs.length → UpI (Lib.compactUpTo zs.toArray m) ∧ ∀ y, y ∈ Lib.compactUpTo zs.toArray m ↔ y ∈ zs.take m
  | 0, _ => by simp [Lib.compactUpTo, UpI]
  | m + 1, h => by
    obtain ⟨ih1, ih2⟩ := compUp zs hs m (by omega)
    rw [Lib.compactUpTo_succ]
    have hg : zs.toArray[m]! = zs[m] := by rw [getElem!_pos _ _ (by simp; omega)]; simp
    have htk : ∀ y, y ∈ zs.take (m + 1) ↔ y ∈ zs.take m ∨ y = zs[m] := fun y => mem_take_snoc zs m h y
    have hle : ∀ i (hi : i < m), zs[i] ≤ zs[m] := fun i hi => List.pairwise_iff_getElem.1 hs i m (by omega) (by omega) hi
    by_cases hk : Lib.keeps zs.toArray m = true
    · rw [if_pos hk, hg]
      constructor
      · refine List.pairwise_append.2 ⟨ih1, List.pairwise_singleton _ _, fun a ha b hb => ?_⟩
        obtain rfl : b = zs[m] := by simpa using hb
        have ha := (ih2 a).1 ha
        obtain ⟨i, hi, rfl⟩ := List.mem_iff_getElem.1 ha
        rw [List.length_take] at hi
        rw [List.getElem_take]
        have h0 : 0 < m := by omega
        have hg1 : zs.toArray[m - 1]! = zs[m - 1] := by rw [getElem!_pos _ _ (by simp; omega)]; simp
        have hne : zs[m] ≠ zs[m - 1] := by
          intro e
          rw [Lib.keeps_neg h0 (by rw [hg, hg1, e])] at hk
          cases hk
        have h1 := hle (m - 1) (by omega)
        have h2 : zs[i] ≤ zs[m - 1] := by
          by_cases e : i = m - 1
          · subst e; exact Int.le_refl _
          · exact List.pairwise_iff_getElem.1 hs i (m - 1) (by omega) (by omega) (by omega)
        omega
      · intro y
        rw [List.mem_append, ih2, htk]
        simp
    · rw [if_neg hk, List.append_nil]
      refine ⟨ih1, fun y => ?_⟩
      rw [ih2, htk]
      constructor
      · exact .inl
      · rintro (h' | rfl)
        · exact h'
        · have h0 : 0 < m := by
            rcases Nat.eq_zero_or_pos m with e | e
            · subst e; exact absurd (Lib.keeps_lt_one _ 0 (by omega)) hk
            · exact e
          have hg1 : zs.toArray[m - 1]! = zs[m - 1] := by rw [getElem!_pos _ _ (by simp; omega)]; simp
          have he : zs[m] = zs[m - 1] := by
            refine Classical.byContradiction fun hne => hk (Lib.keeps_pos (by rw [hg, hg1]; exact hne))
          rw [he]
          refine List.mem_iff_getElem.2 ⟨m - 1, by rw [List.length_take]; omega, by rw [List.getElem_take]⟩
/-- **sorted and compacted** -/
theorem comp_srt (zs l : List Int) (hs : zs.Pairwise (· ≤ ·)) (hp : ∀ y, y ∈ zs ↔ y ∈ l) : Lib.compact zs = srtI l := by
  obtain ⟨h1, h2⟩ := compUp zs hs zs.length (Nat.le_refl _)
  refine srtI_of _ _ h1 fun y => ?_
  show y ∈ Lib.compactUpTo zs.toArray zs.length ↔ _
  rw [h2, List.take_length, hp]
theorem cloneI_any (v : Value) (l : List Int) (w : World) (hv : NS w v l) (hlen : l.length ≤ 1000000) :
    Calls Try.prog 51 #[v] w fun e w' => ∃ v', e = .returned v' ∧ ON w' w.heap.size v' l ∧ Below w.heap.size w w' := by
  obtain ⟨A, c, rfl, hc, hr⟩ := id hv
  cases A with
  | none =>
    have hl : l = [] := by
      cases l with
      | nil => rfl
      | cons x t => obtain ⟨g, o, e, -⟩ := hr 0 (by simp); cases e
    subst hl
    refine (Try.slices_Clone_int_nil _ _ w).mono ?_
    rintro e w' ⟨rfl, rfl⟩
    exact ⟨_, rfl, ON.nil _ _, Below.refl _ _⟩
  | some a =>
    by_cases h0 : 0 < l.length
    · obtain ⟨g, o, e, -⟩ := hr 0 h0
      cases e
      have hcl : ∀ j, j < l.length → w.cell? ⟨g, o + j, none⟩ = some (.int .i64 (l.getD j 0)) := by
        intro j hj
        obtain ⟨g', o', e, h⟩ := hr j hj
        cases e
        rw [h, List.getD_eq_getElem?_getD, List.getElem?_eq_getElem hj]
        rfl
      refine (Try.slices_Clone_int g o l.length c l w (Nat.le_refl _) (by omega) hcl).mono ?_
      rintro e w' ⟨v', rfl, h1, -, h2⟩
      rw [List.take_length] at h1
      exact ⟨v', rfl, h1, h2⟩
    · obtain rfl : l = [] := List.length_eq_zero_iff.1 (by omega)
      refine (Try.slices_Clone_int_zero a c w).mono ?_
      rintro e w' ⟨v', rfl, h1, -, h2⟩
      exact ⟨v', rfl, h1, h2⟩
theorem srtd (l : List Int) : (l.mergeSort fun x y => decide (x ≤ y)).Pairwise (· ≤ ·) := by
  have := List.pairwise_mergeSort (le := fun x y : Int => decide (x ≤ y)) (fun a b c h1 h2 => by simp only [decide_eq_true_eq] at *; omega) (fun a b => by simp only [Bool.or_eq_true, decide_eq_true_eq]; omega) l
  exact this.imp (by simp)
theorem sortI_any (v : Value) (l : List Int) (w : World) (base : Nat) (hv : ON w base v l) (hlen : l.length ≤ 1000000) (hb : base ≤ w.heap.size) :
    Calls Try.prog 52 #[v] w fun e w' => e = .returned (.tuple #[]) ∧ ON w' base v (l.mergeSort fun x y => decide (x ≤ y)) ∧ Below base w w' := by
  obtain ⟨h0, h⟩ := id hv
  rcases h with ⟨rfl, h0⟩ | ⟨g, cap, cur, rfl, hb', hg, hc, hm, hs', ht⟩
  · obtain rfl : l = [] := List.length_eq_zero_iff.1 h0
    refine (Try.slices_Sort_int_none none 0 w).mono ?_
    rintro e w' ⟨rfl, rfl⟩
    exact ⟨rfl, by simpa using hv, Below.refl _ _⟩
  · have hgl : g < w.heap.size := (Array.getElem?_eq_some_iff.1 hg).1
    have hH : Holds (Value.int .i64) w g 0 l.toArray := holds_of_blockI hg (by rw [Nat.mul_one] at ht; exact ht)
    refine (Try.slices_Sort_int g 0 cap l w hH hgl (by omega)).mono ?_
    rintro e w' ⟨rfl, n, os, rfl⟩
    refine ⟨rfl, ?_, (Below.refl base w).grown (grownBy_sortedI _) hb (fun j hj => by cases hj; exact hb')⟩
    have hl : (l.mergeSort fun x y => decide (x ≤ y)).length = l.length := by simp
    have := ownsRow_sortedI (n := n) (os := os) (ts := l.mergeSort fun x y => decide (x ≤ y)) hl hb' hg hc hm hs'
    unfold ON
    rw [hl]
    exact this
theorem compact_len (l : List Int) : (Lib.compact l).length ≤ l.length := by
  unfold Lib.compact Lib.compactUpTo
  rw [List.length_map]
  have := List.length_filter_le (fun j => Lib.keeps l.toArray j) (List.range l.length)
  simpa using this
theorem compI_any (v : Value) (l : List Int) (w : World) (base : Nat) (hv : ON w base v l) (hlen : l.length ≤ 1000000) (hb : base ≤ w.heap.size) :
    Calls Try.prog 53 #[v] w fun e w' => ∃ u, e = .returned u ∧ ON w' base u (Lib.compact l) ∧ Below base w w' := by
  obtain ⟨h0, h⟩ := id hv
  rcases h with ⟨rfl, h0⟩ | ⟨g, cap, cur, rfl, hb', hg, hc, hm, hs', ht⟩
  · obtain rfl : l = [] := List.length_eq_zero_iff.1 h0
    refine (Try.slices_Compact_int_empty none 0 w).mono ?_
    rintro e w' ⟨rfl, rfl⟩
    exact ⟨_, rfl, by simpa [Lib.compact, Lib.compactUpTo] using hv, Below.refl _ _⟩
  · have hgl : g < w.heap.size := (Array.getElem?_eq_some_iff.1 hg).1
    have hH : Holds (Value.int .i64) w g 0 l.toArray := holds_of_blockI hg (by rw [Nat.mul_one] at ht; exact ht)
    refine (Try.slices_Compact_int g 0 cap l w hH (by omega) hc).mono ?_
    rintro e w' ⟨rfl, q, rfl⟩
    obtain ⟨m, hmm⟩ : ∃ m, Lib.compact l = m := ⟨_, rfl⟩
    have hml : m.length ≤ l.length := by rw [← hmm]; exact compact_len l
    rw [hmm]
    obtain ⟨d, hd⟩ : ∃ d, (m ++ List.replicate (l.length - m.length) 0) = d := ⟨_, rfl⟩
    have hdl : d.length = l.length := by rw [← hd]; simp; omega
    have hdt : d.take m.length = m := by rw [← hd]; simp
    rw [hd]
    have e0 : putRow (Value.int .i64) (Sort.ahead w q) g 0 d.toArray = grow (putRow (Value.int .i64) (Sort.ahead w q) g 0 d.toArray) #[] := (by unfold grow; rw [Array.append_empty])
    rw [e0]
    refine ⟨_, rfl, ?_, (Below.refl base w).grown (grownBy_sortedI _) hb (fun j hj => by cases hj; exact hb')⟩
    refine ⟨by simp, .inr ⟨g, cap, _, rfl, hb', heap_sortedI _ hg, by omega, hm, by simp [putCells, hs'], ?_⟩⟩
    have h1 := take_putCellsI cur d (by omega)
    have h2 : ((putCells (Value.int .i64) 0 d.toArray cur).toList.take d.length).take m.length = (d.map (Value.int .i64)).take m.length := by rw [h1]
    rw [List.take_take, Nat.min_eq_left (by omega), ← List.map_take, hdt] at h2
    rw [Nat.mul_one]
    exact h2
set_option maxRecDepth 100000 in
set_option maxHeartbeats 2000000 in
/-- **posting.Of** -/
theorem of_any (v : Value) (l : List Int) (w : World) (hv : NS w v l) (hlen : l.length ≤ 1000000) :
    Calls Try.prog 27 #[v] w fun e w' => ∃ u, e = .returned u ∧ ON w' w.heap.size u (srtI l) ∧ Below w.heap.size w w' := by
  obtain ⟨B, hB⟩ : ∃ B, w.heap.size = B := ⟨_, rfl⟩
  have H1 := Lib.hid (cloneI_any v l w hv hlen)
  have HL := Lib.hid hlen
  rw [hB] at H1
  clear hv hlen
  go_enter Try.func27, Try.ntmps27
  go_wp2_with fail
  refine H1.out.mono ?_
  rintro e w1 ⟨v1, rfl, ho1, hb1⟩
  have HB1 := Lib.hid hb1
  have hn1 : B ≤ w1.heap.size := by rw [← hB]; exact hb1.size
  have H2 := Lib.hid (sortI_any v1 l w1 B ho1 HL.out hn1)
  clear ho1 hb1
  go_wp2_with fail
  refine H2.out.mono ?_
  rintro e w2 ⟨rfl, ho2, hb2⟩
  have HB2 := Lib.hid (HB1.out.trans hb2)
  have hn2 : B ≤ w2.heap.size := Nat.le_trans hn1 hb2.size
  obtain ⟨m, hm⟩ : ∃ m, (l.mergeSort fun x y => decide (x ≤ y)) = m := ⟨_, rfl⟩
  have hfin : Lib.compact m = srtI l := comp_srt m l (by rw [← hm]; exact srtd l) (fun y => by rw [← hm]; simp)
  have hml : m.length ≤ 1000000 := by rw [← hm]; simpa using HL.out
  rw [hm] at ho2
  have HFIN := Lib.hid hfin
  have H3 := Lib.hid (compI_any v1 m w2 B ho2 hml hn2)
  clear ho2 hb2 hm hfin hml
  go_wp2_with fail
  refine H3.out.mono ?_
  rintro e w3 ⟨u3, rfl, ho3, hb3⟩
  rw [HFIN.out] at ho3
  have HB3 := Lib.hid (HB2.out.trans hb3)
  go_wp2
  go_ret
  exact ⟨_, rfl, by rw [hB]; exact ho3, by rw [hB]; exact HB3.out⟩
end Go.Proofs.Ytlgodokgebjjaaa

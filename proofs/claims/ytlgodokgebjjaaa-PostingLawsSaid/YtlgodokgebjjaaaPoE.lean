/- clean, Has, kept. -/
import Derived.RangeFuncNested
import Derived.RangeFuncBound
import Derived.RangeFuncCalls
import Derived.RangeFuncLeaves
import Derived.Shelf.Abstract
import Derived.Shelf.RegionOpen
import Derived.WalkKit
import Derived.OwnWalkIn
import Derived.TacticsInMore
import Derived.LoopNIn
import Derived.LoopIn
import Derived.Outline
import Derived.Lib.Hide
import Derived.Lib.SliceRun
import Derived.IntWalk
import Derived.WalkLawsBesides
import Derived.WalkSpells
import Derived.Laws.BitsAllLaws
import Derived.Lib.ConvBytes
import Derived.Maps.AppendAt
import Derived.Lib.AppendStr
import Derived.Lib.SlBytesConst
import Derived.Laws.AppendOwnNone
import Derived.Laws.OwnMore
import Derived.Laws.BytesArg
import Derived.Deep.RegionHeld3
import Derived.BigQuiet
import Derived.Deep.RegionLaw
import Derived.Deep.QuietTactic
import Derived.Lib.OthersKept
import Derived.Test.YtlgodokgebjjaaaProg
import Derived.Deep.DeepFit
import Derived.Test.YtlgodokgebjjaaaPoD
set_option linter.unusedVariables false
set_option linter.unusedSimpArgs false
namespace Go.Proofs.Ytlgodokgebjjaaa
open Go Go.RowKit Go.Shelf

theorem srtI_clean (l : List Int) (h : riseB l = true) : srtI l = l := srtI_same l ((riseB_iff l).1 h)
set_option maxRecDepth 100000 in
set_option maxHeartbeats 2000000 in
/-- **clean** -/
theorem clean_any (v : Value) (l : List Int) (w : World) (hv : NS w v l) (hlen : l.length ≤ 1000000) :
    Calls Try.prog 92 #[v] w fun e w' => ∃ u, e = .returned u ∧ NS w' u (srtI l) ∧ Below w.heap.size w w' := by
  obtain ⟨B, hB⟩ : ∃ B, w.heap.size = B := ⟨_, rfl⟩
  have H1 := Lib.hid (check_any v l w hv hlen)
  have HV : Hid (∀ w', Below B w w' → NS w' v l) := fun w' hb => hv.below (hB ▸ hb)
  have HL := Lib.hid hlen
  rw [hB] at H1
  have HB0 := Lib.hid hB
  clear hv hlen hB
  go_enter Try.func92, Try.ntmps92
  go_wp2_with fail
  refine H1.out.mono ?_
  rintro e w1 ⟨rfl, hb1⟩
  have hv1 := HV.out w1 hb1
  have hn1 : B ≤ w1.heap.size := by rw [← HB0.out]; exact hb1.size
  have HB1 := Lib.hid hb1
  have HV1 := Lib.hid hv1
  have H2 := Lib.hid (of_any v l w1 hv1 HL.out)
  clear hb1 hv1
  cases hr : riseB l
  · clear hr
    go_wp2_with fail
    refine H2.out.mono ?_
    rintro e w2 ⟨u, rfl, ho, hb2⟩
    have HB2 := Lib.hid (HB1.out.trans (hb2.mono hn1))
    have HN := Lib.hid ho.reads
    clear ho hb2
    go_wp2
    go_ret
    exact ⟨_, rfl, HN.out, by rw [HB0.out]; exact HB2.out⟩
  · have HR := Lib.hid (srtI_clean l hr)
    clear hr
    go_wp2
    go_ret
    exact ⟨_, rfl, by rw [HR.out]; exact HV1.out, by rw [HB0.out]; exact HB1.out⟩
theorem containsI_any (v : Value) (l : List Int) (s : Int) (w : World) (hv : NS w v l) (hlen : l.length ≤ 1000000) :
    Calls Try.prog 54 #[v, .int .i64 s] w fun e w' => e = .returned (.bool (decide (s ∈ l))) ∧ Below w.heap.size w w' := by
  obtain ⟨A, c, rfl, hc, hr⟩ := id hv
  by_cases h0 : 0 < l.length
  · obtain ⟨g, o, rfl, -⟩ := hr 0 h0
    have hcl : ∀ j, j < l.length → w.cell? ⟨g, o + j, none⟩ = some (.int .i64 (l.getD j 0)) := by
      intro j hj
      obtain ⟨g', o', e, h⟩ := hr j hj
      cases e
      rw [h, List.getD_eq_getElem?_getD, List.getElem?_eq_getElem hj]
      rfl
    refine (Try.slices_Contains_int g o l.length c l s w (Nat.le_refl _) (by omega) hcl).mono ?_
    rintro e w' ⟨rfl, rfl⟩
    rw [List.take_length, List.contains_eq_mem]
    exact ⟨rfl, Below.refl _ _⟩
  · obtain rfl : l = [] := List.length_eq_zero_iff.1 (by omega)
    refine (Try.slices_Contains_int_empty A c s w).mono ?_
    rintro e w' ⟨rfl, rfl⟩
    exact ⟨by simp, Below.refl _ _⟩
set_option maxRecDepth 100000 in
set_option maxHeartbeats 2000000 in
theorem binI_empty (A : Option Addr) (c : Nat) (s : Int) (w : World) :
    Calls Try.prog 55 #[.slice A 0 c, .int .i64 s] w fun e w' => ∃ i : Int, e = .returned (.tuple #[.int .i64 i, .bool false]) ∧ Below w.heap.size w w' := by
  go_enter Try.func55, Try.ntmps55
  go_wp2
  go_loop [7, 8] (fun i j => i = .int .i64 0 ∧ j = .int .i64 0) (fun _ _ => 0)
  case atStart => exact ⟨rfl, rfl⟩
  case round =>
    obtain ⟨rfl, rfl⟩ := hrel
    go_wp2
    go_ret2
    exact ⟨⟨_, rfl⟩, Below.refl _ _⟩
theorem binI_any (v : Value) (l : List Int) (s : Int) (w : World) (hv : NS w v l) (hlen : l.length ≤ 1000000) (hu : riseB l = true) :
    Calls Try.prog 55 #[v, .int .i64 s] w fun e w' => ∃ i : Int, e = .returned (.tuple #[.int .i64 i, .bool (decide (s ∈ l))]) ∧ Below w.heap.size w w' := by
  obtain ⟨A, c, rfl, hc, hr⟩ := id hv
  have hu := (riseB_iff l).1 hu
  have hs : (l.take l.length).Pairwise (· ≤ ·) := by rw [List.take_length]; exact hu.imp (by intro a b h; omega)
  by_cases h0 : 0 < l.length
  · obtain ⟨g, o, rfl, -⟩ := hr 0 h0
    have hcl : ∀ j, j < l.length → w.cell? ⟨g, o + j, none⟩ = some (.int .i64 (l.getD j 0)) := by
      intro j hj
      obtain ⟨g', o', e, h⟩ := hr j hj
      cases e
      rw [h, List.getD_eq_getElem?_getD, List.getElem?_eq_getElem hj]
      rfl
    refine (Try.slices_BinarySearch_int g o l.length c l s w (Nat.le_refl _) (by omega) hcl hs).mono ?_
    rintro e w' ⟨rfl, q, rfl⟩
    rw [List.take_length, List.contains_eq_mem]
    exact ⟨_, rfl, below_drewN (Below.refl _ _) q⟩
  · obtain rfl : l = [] := List.length_eq_zero_iff.1 (by omega)
    have e0 : decide (s ∈ ([] : List Int)) = false := by simp
    rw [e0]
    exact binI_empty A c s w
set_option maxRecDepth 100000 in
set_option maxHeartbeats 2000000 in
/-- **posting.Has** -/
theorem has_any (v : Value) (l : List Int) (s : Int) (w : World) (hv : NS w v l) (hlen : l.length ≤ 1000000) :
    Calls Try.prog 29 #[v, .int .i64 s] w fun e w' => e = .returned (.bool (decide (s ∈ l))) ∧ Below w.heap.size w w' := by
  obtain ⟨B, hB⟩ : ∃ B, w.heap.size = B := ⟨_, rfl⟩
  have H1 := Lib.hid (check_any v l w hv hlen)
  have HV : Hid (∀ w', Below B w w' → NS w' v l) := fun w' hb => hv.below (hB ▸ hb)
  have HL := Lib.hid hlen
  rw [hB] at H1
  have HB0 := Lib.hid hB
  obtain ⟨R, hR⟩ : ∃ R, decide (s ∈ l) = R := ⟨_, rfl⟩
  rw [hR]
  have HR0 := Lib.hid hR
  clear hv hlen hB hR
  go_enter Try.func29, Try.ntmps29
  go_wp2_with fail
  refine H1.out.mono ?_
  rintro e w1 ⟨rfl, hb1⟩
  have hv1 := HV.out w1 hb1
  have hn1 : B ≤ w1.heap.size := by rw [← HB0.out]; exact hb1.size
  have HB1 := Lib.hid hb1
  have hc1 := containsI_any v l s w1 hv1 HL.out
  have hc2 := binI_any v l s w1 hv1 HL.out
  rw [HR0.out] at hc1 hc2
  have H2 := Lib.hid hc1
  have H3 := Lib.hid hc2
  clear hb1 hv1 hc1 hc2
  cases hr : riseB l
  · clear hr
    go_wp2_with fail
    refine H2.out.mono ?_
    rintro e w2 ⟨rfl, hb2⟩
    have HB2 := Lib.hid (HB1.out.trans (hb2.mono hn1))
    clear hb2
    go_wp2
    go_ret
    exact ⟨rfl, by rw [HB0.out]; exact HB2.out⟩
  · have H4 := Lib.hid (H3.out hr)
    clear hr
    go_wp2_with fail
    refine H4.out.mono ?_
    rintro e w2 ⟨i, rfl, hb2⟩
    have HB2 := Lib.hid (HB1.out.trans (hb2.mono hn1))
    clear hb2
    go_wp2
    go_ret
    exact ⟨rfl, by rw [HB0.out]; exact HB2.out⟩
end Go.Proofs.Ytlgodokgebjjaaa

/- And, Less, awake; PostingOf, PostingHas. -/
import Derived.RangeFuncNested
import Derived.RangeFuncBound
import Derived.RangeFuncCalls
import Derived.RangeFuncLeaves
import Derived.Shelf.Abstract
import Derived.Shelf.RegionOpen
import Derived.WalkKit
import Derived.OwnWalkIn
import Derived.TacticsInMore
import Derived.LoopNIn
import Derived.LoopIn
import Derived.Outline
import Derived.Lib.Hide
import Derived.Lib.SliceRun
import Derived.IntWalk
import Derived.WalkLawsBesides
import Derived.WalkSpells
import Derived.Laws.BitsAllLaws
import Derived.Lib.ConvBytes
import Derived.Maps.AppendAt
import Derived.Lib.AppendStr
import Derived.Lib.SlBytesConst
import Derived.Laws.AppendOwnNone
import Derived.Laws.OwnMore
import Derived.Laws.BytesArg
import Derived.Deep.RegionHeld3
import Derived.BigQuiet
import Derived.Deep.RegionLaw
import Derived.Deep.QuietTactic
import Derived.Lib.OthersKept
import Derived.Test.YtlgodokgebjjaaaProg
import Derived.Deep.DeepFit
import Derived.Test.YtlgodokgebjjaaaPoG
set_option linter.unusedVariables false
set_option linter.unusedSimpArgs false
namespace Go.Proofs.Ytlgodokgebjjaaa
open Go Go.RowKit Go.Shelf

set_option maxRecDepth 100000 in
set_option maxHeartbeats 2000000 in
theorem and18_any (va vb : Value) (a b : List Int) (w : World) (ha : NS w va a) (hb : NS w vb b) (hla : a.length ≤ 100000) (hlb : b.length ≤ 100000) :
    Calls Try.prog 35 #[va, vb] w fun e w' => ∃ u, e = .returned u ∧ ON w' w.heap.size u (both a b true) ∧ Below w.heap.size w w' := by
  have H1 := Lib.hid (kept_any va vb a b true w ha hb hla hlb)
  clear ha hb hla hlb
  go_enter Try.func35, Try.ntmps35
  go_wp2_with fail
  refine H1.out.mono ?_
  rintro e w1 ⟨u, rfl, ho, hb1⟩
  go_wp2
  go_ret
  exact ⟨_, rfl, ho, hb1⟩
set_option maxRecDepth 100000 in
set_option maxHeartbeats 2000000 in
theorem less18_any (va vb : Value) (a b : List Int) (w : World) (ha : NS w va a) (hb : NS w vb b) (hla : a.length ≤ 100000) (hlb : b.length ≤ 100000) :
    Calls Try.prog 37 #[va, vb] w fun e w' => ∃ u, e = .returned u ∧ ON w' w.heap.size u (both a b false) ∧ Below w.heap.size w w' := by
  have H1 := Lib.hid (kept_any va vb a b false w ha hb hla hlb)
  clear ha hb hla hlb
  go_enter Try.func37, Try.ntmps37
  go_wp2_with fail
  refine H1.out.mono ?_
  rintro e w1 ⟨u, rfl, ho, hb1⟩
  go_wp2
  go_ret
  exact ⟨_, rfl, ho, hb1⟩
theorem NS_cells (w : World) (vs : Array Value) (l : List Int) (n : Nat) (t : TypeId) (hn : l.length = n) (h : vs = (l.map eI).toArray) (hm : n ≤ 1000) : NS (w.alloc (.cells vs t)) (.slice (some ⟨w.heap.size, 0, none⟩) n n) l := by
  subst hn h
  refine ⟨_, _, rfl, ⟨Nat.le_refl _, by omega⟩, fun i hi => ⟨_, 0, rfl, ?_⟩⟩
  simp only [Nat.zero_add]
  rw [World.cell?, heap_alloc_new]
  simp [hi]
theorem aw18_both : both [1, 2, 3] [2] false = [1, 3] := by decide +kernel
set_option maxHeartbeats 4000000 in
set_option maxRecDepth 100000 in
/-- **awake** -/
theorem awake18_any (w : World) : Calls Try.prog 22 #[] w fun e w' => e = .returned (.bool true) ∧ Below w.heap.size w w' := by
  obtain ⟨B, hB⟩ : ∃ B, w.heap.size = B := ⟨_, rfl⟩
  have hb1 : Below B w (w.alloc (.cells #[.int .i64 1, .int .i64 2, .int .i64 3] 2)) := by rw [← hB]; exact (Below.refl _ _).alloc (Nat.le_refl _) _
  have hn1 : NS (w.alloc (.cells #[.int .i64 1, .int .i64 2, .int .i64 3] 2)) (.slice (some ⟨w.heap.size, 0, none⟩) 3 3) [1, 2, 3] := NS_cells _ _ _ 3 _ rfl rfl (by omega)
  have hn2 : NS ((w.alloc (.cells #[.int .i64 1, .int .i64 2, .int .i64 3] 2)).alloc (.cells #[.int .i64 2] 2)) (.slice (some ⟨(w.alloc (.cells #[.int .i64 1, .int .i64 2, .int .i64 3] 2)).heap.size, 0, none⟩) 1 1) [2] := NS_cells _ _ _ 1 _ rfl rfl (by omega)
  have hb2 : Below B w ((w.alloc (.cells #[.int .i64 1, .int .i64 2, .int .i64 3] 2)).alloc (.cells #[.int .i64 2] 2)) := hb1.alloc (by rw [← hB]; simp) _
  have h1 := less18_any _ _ _ _ _ (hn1.below ((Below.refl _ _).alloc (Nat.le_refl _) (.cells #[.int .i64 2] 2))) hn2 (by decide) (by decide)
  rw [aw18_both] at h1
  simp only [alloc_size, hB] at h1
  have H1 := Lib.hid h1
  have HB0 := Lib.hid hb2
  have HBE := Lib.hid hB
  clear h1 hb1 hb2 hn1 hn2
  rw [hB]
  go_enter Try.func22, Try.ntmps22
  go_wp2_with fail
  refine H1.out.mono ?_
  rintro e w1 ⟨u, rfl, ho, hb1⟩
  have hts := ho.reads
  obtain ⟨A, c, rfl, -, -⟩ := id ho.reads
  obtain ⟨g, o, rfl, c0⟩ := hts.at 0 (by decide)
  obtain ⟨g', o', e, c3⟩ := hts.at 1 (by decide)
  cases e
  have c0' : w1.cell? ⟨g, o, none⟩ = some (.int .i64 1) := c0
  have c3' : w1.cell? ⟨g, o + 1, none⟩ = some (.int .i64 3) := c3
  have HB1 := Lib.hid (HB0.out.trans (hb1.mono (by omega)))
  clear c0 c3 hts ho hb1
  have hl : ([1, 3] : List Int).length = 2 := rfl
  rw [hl]
  clear hl
  go_wp2
  go_ret
  exact ⟨rfl, HB1.out⟩
theorem few1 (w : World) (v : Value) (l : List Int) (h : NS w v l) : Calls Try.prog 23 #[.slice (some ⟨w.heap.size, 0, none⟩) 1 1] (w.alloc (.cells #[v] 34)) fun e w' => e = .returned (.bool (fewB [l])) ∧ w' = w.alloc (.cells #[v] 34) :=
  few18_any _ [l] _ (SI_lit w [v] [l] 1 rfl _ rfl (by simp) (fun i hi => by
    have : i = 0 := by simpa using hi
    subst this
    exact h))
set_option maxHeartbeats 4000000 in
set_option maxRecDepth 100000 in
theorem postingOf_walk (v : Value) (l : List Int) (w : World) (h : NS w v l) :
    Calls Try.prog 8 #[v] w fun e w' => e = .returned (.bool true) ∧ Below w.heap.size w w' := by
  obtain ⟨B, hB⟩ : ∃ B, w.heap.size = B := ⟨_, rfl⟩
  obtain ⟨A, c, rfl, -, -⟩ := id h
  obtain ⟨n, hn⟩ : ∃ n, l.length = n := ⟨_, rfl⟩
  rw [hn] at h ⊢
  have haw := awake18_any w
  rw [hB] at haw ⊢
  have HAW := Lib.hid haw
  have HV : Hid (∀ w', Below B w w' → NS w' (.slice A n c) l) := fun w' hb => h.below (hB ▸ hb)
  have HB0 := Lib.hid hB
  clear h hB haw hn
  go_enter Try.func8, Try.ntmps8
  go_wp2_with fail
  refine HAW.out.mono ?_
  rintro e w1 ⟨rfl, hb1⟩
  have hn1 : B ≤ w1.heap.size := by rw [← HB0.out]; exact hb1.size
  have H1 := Lib.hid (few1 w1 (.slice A n c) l (HV.out _ hb1))
  have HB1 := Lib.hid (hb1.alloc hn1 (.cells #[.slice A n c] 34))
  clear hb1
  go_wp2_with fail
  refine H1.out.mono ?_
  rintro e w2 ⟨rfl, rfl⟩
  have hn2 : B ≤ (w1.alloc (.cells #[.slice A n c] 34)).heap.size := by rw [alloc_size]; omega
  obtain ⟨w2, hw2⟩ : ∃ x, w1.alloc (.cells #[.slice A n c] 34) = x := ⟨_, rfl⟩
  rw [hw2] at HB1 hn2 ⊢
  clear H1 hw2
  cases hf : fewB [l]
  · go_wp2
    go_ret
    exact ⟨rfl, HB1.out⟩
  · have hl : l.length ≤ 100 := ((fewB_iff [l]).1 hf).2 l (by simp)
    have HL := Lib.hid hl
    have H2 := Lib.hid (check_any (.slice A n c) l w2 (HV.out _ HB1.out) (by omega))
    clear hf hl
    go_wp2_with fail
    refine H2.out.mono ?_
    rintro e w3 ⟨rfl, hb3⟩
    have HB3 := Lib.hid (HB1.out.trans (hb3.mono hn2))
    have hn3 := Nat.le_trans hn2 hb3.size
    have H3 := Lib.hid (qcheck_any (.slice A n c) l w3 (HV.out _ HB3.out) (by have := HL.out; omega))
    clear hb3
    go_wp2_with fail
    refine H3.out.mono ?_
    rintro e w4 ⟨rfl, hb4⟩
    have HB4 := Lib.hid (HB3.out.trans (hb4.mono hn3))
    have hn4 := Nat.le_trans hn3 hb4.size
    have H4 := Lib.hid (of_any (.slice A n c) l w4 (HV.out _ HB4.out) (by have := HL.out; omega))
    obtain ⟨R, hR⟩ : ∃ R, riseB l = R := ⟨_, rfl⟩
    rw [hR]
    have q1 : (R == R) = true := by simp
    clear hb4 hR
    go_wp2_with fail
    refine H4.out.mono ?_
    rintro e w5 ⟨u5, rfl, ho5, hb5⟩
    have HB5 := Lib.hid (HB4.out.trans (hb5.mono hn4))
    have hn5 := Nat.le_trans hn4 hb5.size
    have H5 := Lib.hid (qof_any (.slice A n c) l w5 (by have := HL.out; omega) (HV.out _ HB5.out))
    have HU5 : Hid (∀ w', Below w5.heap.size w5 w' → NS w' u5 (srtI l)) := fun w' hb => ho5.reads.below hb
    clear hb5 ho5
    go_wp2_with fail
    refine H5.out.mono ?_
    rintro e w6 ⟨u6, rfl, ho6, hb6⟩
    have HB6 := Lib.hid (HB5.out.trans (hb6.mono hn5))
    have hn6 := Nat.le_trans hn5 hb6.size
    have H6 := Lib.hid (same_any u5 u6 (srtI l) w6 (HU5.out _ hb6) ho6.reads (by have := HL.out; have := srtI_len l; omega))
    clear hb6 ho6
    go_wp2_with fail
    refine H6.out.mono ?_
    rintro e w7 ⟨rfl, hb7⟩
    have HB7 := Lib.hid (HB6.out.trans (hb7.mono hn6))
    clear hb7
    go_wp2
    go_ret
    exact ⟨rfl, HB7.out⟩
set_option maxHeartbeats 4000000 in
set_option maxRecDepth 100000 in
theorem postingHas_walk (v : Value) (l : List Int) (s : Int) (w : World) (h : NS w v l) (hwf : (Lit.int .i64 s).wf = true) :
    Calls Try.prog 9 #[v, .int .i64 s] w fun e w' => e = .returned (.bool true) ∧ Below w.heap.size w w' := by
  obtain ⟨B, hB⟩ : ∃ B, w.heap.size = B := ⟨_, rfl⟩
  obtain ⟨A, c, rfl, -, -⟩ := id h
  obtain ⟨n, hn⟩ : ∃ n, l.length = n := ⟨_, rfl⟩
  rw [hn] at h ⊢
  have haw := awake18_any w
  rw [hB] at haw ⊢
  have HAW := Lib.hid haw
  have HV : Hid (∀ w', Below B w w' → NS w' (.slice A n c) l) := fun w' hb => h.below (hB ▸ hb)
  have HB0 := Lib.hid hB
  clear h hB haw hn
  go_enter Try.func9, Try.ntmps9
  go_wp2_with fail
  refine HAW.out.mono ?_
  rintro e w1 ⟨rfl, hb1⟩
  have hn1 : B ≤ w1.heap.size := by rw [← HB0.out]; exact hb1.size
  have H1 := Lib.hid (few1 w1 (.slice A n c) l (HV.out _ hb1))
  have HB1 := Lib.hid (hb1.alloc hn1 (.cells #[.slice A n c] 34))
  clear hb1
  go_wp2_with fail
  refine H1.out.mono ?_
  rintro e w2 ⟨rfl, rfl⟩
  have hn2 : B ≤ (w1.alloc (.cells #[.slice A n c] 34)).heap.size := by rw [alloc_size]; omega
  obtain ⟨w2, hw2⟩ : ∃ x, w1.alloc (.cells #[.slice A n c] 34) = x := ⟨_, rfl⟩
  rw [hw2] at HB1 hn2 ⊢
  clear H1 hw2
  cases hf : fewB [l]
  · go_wp2
    go_ret
    exact ⟨rfl, HB1.out⟩
  · have hl : l.length ≤ 100 := ((fewB_iff [l]).1 hf).2 l (by simp)
    have HL := Lib.hid hl
    have h2 := has_any (.slice A n c) l s w2 (HV.out _ HB1.out) (by omega)
    have h3 := fun w => qhas_any (.slice A n c) l s w
    obtain ⟨R, hR⟩ : ∃ R, decide (s ∈ l) = R := ⟨_, rfl⟩
    simp only [hR] at h2 h3
    have H2 := Lib.hid h2
    have H3 := Lib.hid h3
    have q1 : (R == R) = true := by simp
    clear hf hl h2 h3 hR
    go_wp2_with fail
    refine H2.out.mono ?_
    rintro e w3 ⟨rfl, hb3⟩
    have HB3 := Lib.hid (HB1.out.trans (hb3.mono hn2))
    have hn3 := Nat.le_trans hn2 hb3.size
    have H4 := Lib.hid (H3.out w3 (HV.out _ HB3.out) (by have := HL.out; omega))
    clear hb3
    go_wp2_with fail
    refine H4.out.mono ?_
    rintro e w4 ⟨rfl, rfl⟩
    go_wp2
    go_ret
    exact ⟨rfl, HB3.out⟩
end Go.Proofs.Ytlgodokgebjjaaa

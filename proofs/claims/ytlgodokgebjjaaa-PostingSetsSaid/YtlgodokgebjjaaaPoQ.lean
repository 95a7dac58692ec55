/- PostingSets, PostingLaws. -/
import Derived.RangeFuncNested
import Derived.RangeFuncBound
import Derived.RangeFuncCalls
import Derived.RangeFuncLeaves
import Derived.Shelf.Abstract
import Derived.Shelf.RegionOpen
import Derived.WalkKit
import Derived.OwnWalkIn
import Derived.TacticsInMore
import Derived.LoopNIn
import Derived.LoopIn
import Derived.Outline
import Derived.Lib.Hide
import Derived.Lib.SliceRun
import Derived.IntWalk
import Derived.WalkLawsBesides
import Derived.WalkSpells
import Derived.Laws.BitsAllLaws
import Derived.Lib.ConvBytes
import Derived.Maps.AppendAt
import Derived.Lib.AppendStr
import Derived.Lib.SlBytesConst
import Derived.Laws.AppendOwnNone
import Derived.Laws.OwnMore
import Derived.Laws.BytesArg
import Derived.Deep.RegionHeld3
import Derived.BigQuiet
import Derived.Deep.RegionLaw
import Derived.Deep.QuietTactic
import Derived.Lib.OthersKept
import Derived.Test.YtlgodokgebjjaaaProg
import Derived.Deep.DeepFit
import Derived.Test.YtlgodokgebjjaaaPoP
set_option linter.unusedVariables false
set_option linter.unusedSimpArgs false
namespace Go.Proofs.Ytlgodokgebjjaaa
open Go Go.RowKit Go.Shelf

set_option maxRecDepth 100000 in
set_option maxHeartbeats 8000000 in
theorem postingSets_walk (va : Value) (a : List Int) (vb : Value) (b : List Int) (w : World) (ha : NS w va a) (hb : NS w vb b) :
    Calls Try.prog 12 #[va, vb] w fun e w' => e = .returned (.bool true) ∧ Below w.heap.size w w' := by
  obtain ⟨B, hB⟩ : ∃ B, w.heap.size = B := ⟨_, rfl⟩
  obtain ⟨Aa, ca, rfl, -, -⟩ := id ha
  obtain ⟨na, hna⟩ : ∃ n, a.length = n := ⟨_, rfl⟩
  rw [hna] at ha ⊢
  obtain ⟨Ab, cb, rfl, -, -⟩ := id hb
  obtain ⟨nb, hnb⟩ : ∃ n, b.length = n := ⟨_, rfl⟩
  rw [hnb] at hb ⊢
  have haw := awake18_any w
  rw [hB] at haw ⊢
  have HAW := Lib.hid haw
  have Za : Hid (∀ w', Below B w w' → NS w' (.slice Aa na ca) a) := fun w' hbw => ha.below (hB ▸ hbw)
  have Zb : Hid (∀ w', Below B w w' → NS w' (.slice Ab nb cb) b) := fun w' hbw => hb.below (hB ▸ hbw)
  have HB0 := Lib.hid hB
  clear hB haw ha hna hb hnb
  go_enter Try.func12, Try.ntmps12
  go_wp2_with fail
  refine HAW.out.mono ?_
  rintro e w0 ⟨rfl, hb1⟩
  have hn0 : B ≤ w0.heap.size := by rw [← HB0.out]; exact hb1.size
  have H1 := Lib.hid (few18_any _ [a, b] _ (SI_two w0 _ _ a b (Za.out _ hb1) (Zb.out _ hb1)))
  have HB1 := Lib.hid (hb1.alloc hn0 (.cells #[.slice Aa na ca, .slice Ab nb cb] 34))
  clear hb1
  go_wp2_with fail
  refine H1.out.mono ?_
  rintro e wx ⟨rfl, rfl⟩
  have hn1 : B ≤ (w0.alloc (.cells #[.slice Aa na ca, .slice Ab nb cb] 34)).heap.size := by rw [alloc_size]; omega
  obtain ⟨w1, hw1⟩ : ∃ x, w0.alloc (.cells #[.slice Aa na ca, .slice Ab nb cb] 34) = x := ⟨_, rfl⟩
  rw [hw1] at HB1 hn1 ⊢
  clear H1 hw1
  cases hf : fewB [a, b]
  · go_wp2
    go_ret
    exact ⟨rfl, HB1.out⟩
  have hf2 := ((fewB_iff [a, b]).1 hf).2
  have LA : Hid (a.length ≤ 100) := hf2 a (by simp)
  have LB : Hid (b.length ≤ 100) := hf2 b (by simp)
  have UA := Lib.hid (Za.out _ HB1.out)
  have UB := Lib.hid (Zb.out _ HB1.out)
  clear hf hf2 Za Zb
  have hlx : ([] : List Int).length + a.length ≤ 1000000 := by have := LA.out; simp; omega
  have HLX := Lib.hid hlx
  have hly : a.length + b.length ≤ 1000000 := by have := LA.out; have := LB.out; omega
  have HLY := Lib.hid hly
  clear hlx hly
  have HN0 : Hid (ON w1 w1.heap.size (.slice none 0 0) []) := ON.nil _ _
  have HNL : Hid (w1.heap.size ≤ w1.heap.size) := Nat.le_refl _
  go_wp2_with (at_builtin; refine wpN_any rfl _ _ rfl w1.heap.size (.slice none 0 0) (.slice Aa na ca) [] a rfl HN0.out rfl UA.out HLX.out HNL.out ?_)
  intro v2 w2 ho2 _ hb2
  have HO2 := Lib.hid ho2
  have HB12 := Lib.hid hb2
  have UB2 := Lib.hid (UB.out.below hb2)
  have hs2 : w1.heap.size ≤ w2.heap.size := hb2.size
  clear ho2 hb2
  go_wp2_with (at_builtin; refine wpN_any rfl _ _ rfl w1.heap.size v2 (.slice Ab nb cb) a b rfl HO2.out rfl UB2.out HLY.out hs2 ?_)
  intro v3 w3 ho3 _ hb3
  have hb13 := HB12.out.trans hb3
  have HB3 := Lib.hid (HB1.out.trans (hb13.mono hn1))
  have hn3 := Nat.le_trans hn1 hb13.size
  replace UA := Lib.hid (UA.out.below hb13)
  replace UB := Lib.hid (UB.out.below hb13)
  have UX := Lib.hid ho3.reads
  have LX : Hid ((a ++ b).length ≤ 200) := by show _ ≤ _; have := LA.out; have := LB.out; rw [List.length_append]; omega
  clear ho3 hb3 hb13 HB12 HO2 UB2 HN0 HNL
  have C1 := Lib.hid (and18_any (.slice Aa na ca) (.slice Ab nb cb) (a) (b) w3 UA.out UB.out (by have := LA.out; omega) (by have := LB.out; omega))
  go_wp2_with fail
  refine C1.out.mono ?_
  rintro e w4 ⟨u1, rfl, ho, hb⟩
  have HB4 := Lib.hid (HB3.out.trans (hb.mono hn3))
  have hn4 := Nat.le_trans hn3 hb.size
  replace UA := Lib.hid (UA.out.below hb)
  replace UB := Lib.hid (UB.out.below hb)
  replace UX := Lib.hid (UX.out.below hb)
  have U1 := Lib.hid ho.reads
  have L1 : Hid ((both (a) (b) true).length ≤ 100) := both_len _ _ _ _ LA.out
  clear ho hb C1
  have C2 := Lib.hid (qboth_any (.slice Aa na ca) (.slice Ab nb cb) a b true w4 UA.out UB.out (by have := LA.out; omega) (by have := LB.out; omega))
  go_wp2_with fail
  refine C2.out.mono ?_
  rintro e w5 ⟨u2, rfl, ho, hb⟩
  have HB5 := Lib.hid (HB4.out.trans (hb.mono hn4))
  have hn5 := Nat.le_trans hn4 hb.size
  replace UA := Lib.hid (UA.out.below hb)
  replace UB := Lib.hid (UB.out.below hb)
  replace UX := Lib.hid (UX.out.below hb)
  replace U1 := Lib.hid (U1.out.below hb)
  have U2 := Lib.hid ho.reads
  have L2 : Hid ((both a b true).length ≤ 100) := both_len _ _ _ _ LA.out
  clear ho hb C2
  have UE := U2
  have C3 := Lib.hid (same_any u1 u2 (both (a) (b) true) w5 U1.out UE.out (by have := L1.out; omega))
  clear UE
  go_wp2_with fail
  refine C3.out.mono ?_
  rintro e w6 ⟨rfl, hb⟩
  have HB6 := Lib.hid (HB5.out.trans (hb.mono hn5))
  have hn6 := Nat.le_trans hn5 hb.size
  replace UA := Lib.hid (UA.out.below hb)
  replace UB := Lib.hid (UB.out.below hb)
  replace UX := Lib.hid (UX.out.below hb)
  replace U1 := Lib.hid (U1.out.below hb)
  replace U2 := Lib.hid (U2.out.below hb)
  clear hb C3
  clear U1 U2
  have C4 := Lib.hid (less18_any (.slice Aa na ca) (.slice Ab nb cb) (a) (b) w6 UA.out UB.out (by have := LA.out; omega) (by have := LB.out; omega))
  go_wp2_with fail
  refine C4.out.mono ?_
  rintro e w7 ⟨u4, rfl, ho, hb⟩
  have HB7 := Lib.hid (HB6.out.trans (hb.mono hn6))
  have hn7 := Nat.le_trans hn6 hb.size
  replace UA := Lib.hid (UA.out.below hb)
  replace UB := Lib.hid (UB.out.below hb)
  replace UX := Lib.hid (UX.out.below hb)
  have U4 := Lib.hid ho.reads
  have L4 : Hid ((both (a) (b) false).length ≤ 100) := both_len _ _ _ _ LA.out
  clear ho hb C4
  have C5 := Lib.hid (qboth_any (.slice Aa na ca) (.slice Ab nb cb) a b false w7 UA.out UB.out (by have := LA.out; omega) (by have := LB.out; omega))
  go_wp2_with fail
  refine C5.out.mono ?_
  rintro e w8 ⟨u5, rfl, ho, hb⟩
  have HB8 := Lib.hid (HB7.out.trans (hb.mono hn7))
  have hn8 := Nat.le_trans hn7 hb.size
  replace UA := Lib.hid (UA.out.below hb)
  replace UB := Lib.hid (UB.out.below hb)
  replace UX := Lib.hid (UX.out.below hb)
  replace U4 := Lib.hid (U4.out.below hb)
  have U5 := Lib.hid ho.reads
  have L5 : Hid ((both a b false).length ≤ 100) := both_len _ _ _ _ LA.out
  clear ho hb C5
  have UE := U5
  have C6 := Lib.hid (same_any u4 u5 (both (a) (b) false) w8 U4.out UE.out (by have := L4.out; omega))
  clear UE
  go_wp2_with fail
  refine C6.out.mono ?_
  rintro e w9 ⟨rfl, hb⟩
  have HB9 := Lib.hid (HB8.out.trans (hb.mono hn8))
  have hn9 := Nat.le_trans hn8 hb.size
  replace UA := Lib.hid (UA.out.below hb)
  replace UB := Lib.hid (UB.out.below hb)
  replace UX := Lib.hid (UX.out.below hb)
  replace U4 := Lib.hid (U4.out.below hb)
  replace U5 := Lib.hid (U5.out.below hb)
  clear hb C6
  clear U4 U5
  have C7 := Lib.hid (or18_any (.slice Aa na ca) (.slice Ab nb cb) (a) (b) w9 UA.out UB.out (by have := LA.out; omega) (by have := LB.out; omega))
  go_wp2_with fail
  refine C7.out.mono ?_
  rintro e w10 ⟨u7, rfl, ho, hb⟩
  have HB10 := Lib.hid (HB9.out.trans (hb.mono hn9))
  have hn10 := Nat.le_trans hn9 hb.size
  replace UA := Lib.hid (UA.out.below hb)
  replace UB := Lib.hid (UB.out.below hb)
  replace UX := Lib.hid (UX.out.below hb)
  have U7 := Lib.hid ho.reads
  have L7 : Hid ((srtI ((a) ++ (b))).length ≤ 200) := or_len _ _ _ _ _ LA.out LB.out (by omega)
  clear ho hb C7
  have C8 := Lib.hid (qof_any v3 (a ++ b) w10 (by have := LX.out; omega) UX.out)
  go_wp2_with fail
  refine C8.out.mono ?_
  rintro e w11 ⟨u8, rfl, ho, hb⟩
  have HB11 := Lib.hid (HB10.out.trans (hb.mono hn10))
  have hn11 := Nat.le_trans hn10 hb.size
  replace UA := Lib.hid (UA.out.below hb)
  replace UB := Lib.hid (UB.out.below hb)
  replace UX := Lib.hid (UX.out.below hb)
  replace U7 := Lib.hid (U7.out.below hb)
  have U8 := Lib.hid ho.reads
  have L8 : Hid ((srtI (a ++ b)).length ≤ 200) := or_len _ _ _ _ _ LA.out LB.out (by omega)
  clear ho hb C8
  have UE := U8
  have C9 := Lib.hid (same_any u7 u8 (srtI ((a) ++ (b))) w11 U7.out UE.out (by have := L7.out; omega))
  clear UE
  go_wp2_with fail
  refine C9.out.mono ?_
  rintro e w12 ⟨rfl, hb⟩
  have HB12 := Lib.hid (HB11.out.trans (hb.mono hn11))
  have hn12 := Nat.le_trans hn11 hb.size
  replace UA := Lib.hid (UA.out.below hb)
  replace UB := Lib.hid (UB.out.below hb)
  replace UX := Lib.hid (UX.out.below hb)
  replace U7 := Lib.hid (U7.out.below hb)
  replace U8 := Lib.hid (U8.out.below hb)
  clear hb C9
  clear U7 U8
  go_wp2
  go_ret
  exact ⟨rfl, HB12.out⟩
end Go.Proofs.Ytlgodokgebjjaaa

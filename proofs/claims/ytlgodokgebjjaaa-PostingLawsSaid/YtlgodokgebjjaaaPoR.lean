/- PostingSets, PostingLaws. -/
import Derived.RangeFuncNested
import Derived.RangeFuncBound
import Derived.RangeFuncCalls
import Derived.RangeFuncLeaves
import Derived.Shelf.Abstract
import Derived.Shelf.RegionOpen
import Derived.WalkKit
import Derived.OwnWalkIn
import Derived.TacticsInMore
import Derived.LoopNIn
import Derived.LoopIn
import Derived.Outline
import Derived.Lib.Hide
import Derived.Lib.SliceRun
import Derived.IntWalk
import Derived.WalkLawsBesides
import Derived.WalkSpells
import Derived.Laws.BitsAllLaws
import Derived.Lib.ConvBytes
import Derived.Maps.AppendAt
import Derived.Lib.AppendStr
import Derived.Lib.SlBytesConst
import Derived.Laws.AppendOwnNone
import Derived.Laws.OwnMore
import Derived.Laws.BytesArg
import Derived.Deep.RegionHeld3
import Derived.BigQuiet
import Derived.Deep.RegionLaw
import Derived.Deep.QuietTactic
import Derived.Lib.OthersKept
import Derived.Test.YtlgodokgebjjaaaProg
import Derived.Deep.DeepFit
import Derived.Test.YtlgodokgebjjaaaPoP
set_option linter.unusedVariables false
set_option linter.unusedSimpArgs false
namespace Go.Proofs.Ytlgodokgebjjaaa
open Go Go.RowKit Go.Shelf

set_option maxRecDepth 100000 in
set_option maxHeartbeats 8000000 in
theorem postingLaws_walk (va : Value) (a : List Int) (vb : Value) (b : List Int) (vc : Value) (c : List Int) (w : World) (ha : NS w va a) (hb : NS w vb b) (hc : NS w vc c) :
    Calls Try.prog 13 #[va, vb, vc] w fun e w' => e = .returned (.bool true) ∧ Below w.heap.size w w' := by
  obtain ⟨B, hB⟩ : ∃ B, w.heap.size = B := ⟨_, rfl⟩
  obtain ⟨Aa, ca, rfl, -, -⟩ := id ha
  obtain ⟨na, hna⟩ : ∃ n, a.length = n := ⟨_, rfl⟩
  rw [hna] at ha ⊢
  obtain ⟨Ab, cb, rfl, -, -⟩ := id hb
  obtain ⟨nb, hnb⟩ : ∃ n, b.length = n := ⟨_, rfl⟩
  rw [hnb] at hb ⊢
  obtain ⟨Ac, cc, rfl, -, -⟩ := id hc
  obtain ⟨nc, hnc⟩ : ∃ n, c.length = n := ⟨_, rfl⟩
  rw [hnc] at hc ⊢
  have haw := awake18_any w
  rw [hB] at haw ⊢
  have HAW := Lib.hid haw
  have Za : Hid (∀ w', Below B w w' → NS w' (.slice Aa na ca) a) := fun w' hbw => ha.below (hB ▸ hbw)
  have Zb : Hid (∀ w', Below B w w' → NS w' (.slice Ab nb cb) b) := fun w' hbw => hb.below (hB ▸ hbw)
  have Zc : Hid (∀ w', Below B w w' → NS w' (.slice Ac nc cc) c) := fun w' hbw => hc.below (hB ▸ hbw)
  have HB0 := Lib.hid hB
  clear hB haw ha hna hb hnb hc hnc
  go_enter Try.func13, Try.ntmps13
  go_wp2_with fail
  refine HAW.out.mono ?_
  rintro e w0 ⟨rfl, hb1⟩
  have hn0 : B ≤ w0.heap.size := by rw [← HB0.out]; exact hb1.size
  have H1 := Lib.hid (few18_any _ [a, b, c] _ (SI_three w0 _ _ _ a b c (Za.out _ hb1) (Zb.out _ hb1) (Zc.out _ hb1)))
  have HB1 := Lib.hid (hb1.alloc hn0 (.cells #[.slice Aa na ca, .slice Ab nb cb, .slice Ac nc cc] 34))
  clear hb1
  go_wp2_with fail
  refine H1.out.mono ?_
  rintro e wx ⟨rfl, rfl⟩
  have hn1 : B ≤ (w0.alloc (.cells #[.slice Aa na ca, .slice Ab nb cb, .slice Ac nc cc] 34)).heap.size := by rw [alloc_size]; omega
  obtain ⟨w1, hw1⟩ : ∃ x, w0.alloc (.cells #[.slice Aa na ca, .slice Ab nb cb, .slice Ac nc cc] 34) = x := ⟨_, rfl⟩
  rw [hw1] at HB1 hn1 ⊢
  clear H1 hw1
  cases hf : fewB [a, b, c]
  · go_wp2
    go_ret
    exact ⟨rfl, HB1.out⟩
  have hf2 := ((fewB_iff [a, b, c]).1 hf).2
  have LA : Hid (a.length ≤ 100) := hf2 a (by simp)
  have LB : Hid (b.length ≤ 100) := hf2 b (by simp)
  have LC : Hid (c.length ≤ 100) := hf2 c (by simp)
  have UA := Lib.hid (Za.out _ HB1.out)
  have UB := Lib.hid (Zb.out _ HB1.out)
  have UC := Lib.hid (Zc.out _ HB1.out)
  clear hf hf2 Za Zb Zc
  have C1 := Lib.hid (and18_any (.slice Aa na ca) (.slice Ab nb cb) (a) (b) w1 UA.out UB.out (by have := LA.out; omega) (by have := LB.out; omega))
  go_wp2_with fail
  refine C1.out.mono ?_
  rintro e w2 ⟨u1, rfl, ho, hb⟩
  have HB2 := Lib.hid (HB1.out.trans (hb.mono hn1))
  have hn2 := Nat.le_trans hn1 hb.size
  replace UA := Lib.hid (UA.out.below hb)
  replace UB := Lib.hid (UB.out.below hb)
  replace UC := Lib.hid (UC.out.below hb)
  have U1 := Lib.hid ho.reads
  have L1 : Hid ((both (a) (b) true).length ≤ 100) := both_len _ _ _ _ LA.out
  clear ho hb C1
  have C2 := Lib.hid (and18_any (.slice Ab nb cb) (.slice Aa na ca) (b) (a) w2 UB.out UA.out (by have := LB.out; omega) (by have := LA.out; omega))
  go_wp2_with fail
  refine C2.out.mono ?_
  rintro e w3 ⟨u2, rfl, ho, hb⟩
  have HB3 := Lib.hid (HB2.out.trans (hb.mono hn2))
  have hn3 := Nat.le_trans hn2 hb.size
  replace UA := Lib.hid (UA.out.below hb)
  replace UB := Lib.hid (UB.out.below hb)
  replace UC := Lib.hid (UC.out.below hb)
  replace U1 := Lib.hid (U1.out.below hb)
  have U2 := Lib.hid ho.reads
  have L2 : Hid ((both (b) (a) true).length ≤ 100) := both_len _ _ _ _ LB.out
  clear ho hb C2
  have UE : Hid (NS w3 u2 (both (a) (b) true)) := by have := U2.out; rw [law1 b a] at this; exact this
  have C3 := Lib.hid (same_any u1 u2 (both (a) (b) true) w3 U1.out UE.out (by have := L1.out; omega))
  clear UE
  go_wp2_with fail
  refine C3.out.mono ?_
  rintro e w4 ⟨rfl, hb⟩
  have HB4 := Lib.hid (HB3.out.trans (hb.mono hn3))
  have hn4 := Nat.le_trans hn3 hb.size
  replace UA := Lib.hid (UA.out.below hb)
  replace UB := Lib.hid (UB.out.below hb)
  replace UC := Lib.hid (UC.out.below hb)
  replace U1 := Lib.hid (U1.out.below hb)
  replace U2 := Lib.hid (U2.out.below hb)
  clear hb C3
  clear U1 U2
  have C4 := Lib.hid (or18_any (.slice Aa na ca) (.slice Ab nb cb) (a) (b) w4 UA.out UB.out (by have := LA.out; omega) (by have := LB.out; omega))
  go_wp2_with fail
  refine C4.out.mono ?_
  rintro e w5 ⟨u4, rfl, ho, hb⟩
  have HB5 := Lib.hid (HB4.out.trans (hb.mono hn4))
  have hn5 := Nat.le_trans hn4 hb.size
  replace UA := Lib.hid (UA.out.below hb)
  replace UB := Lib.hid (UB.out.below hb)
  replace UC := Lib.hid (UC.out.below hb)
  have U4 := Lib.hid ho.reads
  have L4 : Hid ((srtI ((a) ++ (b))).length ≤ 200) := or_len _ _ _ _ _ LA.out LB.out (by omega)
  clear ho hb C4
  have C5 := Lib.hid (or18_any (.slice Ab nb cb) (.slice Aa na ca) (b) (a) w5 UB.out UA.out (by have := LB.out; omega) (by have := LA.out; omega))
  go_wp2_with fail
  refine C5.out.mono ?_
  rintro e w6 ⟨u5, rfl, ho, hb⟩
  have HB6 := Lib.hid (HB5.out.trans (hb.mono hn5))
  have hn6 := Nat.le_trans hn5 hb.size
  replace UA := Lib.hid (UA.out.below hb)
  replace UB := Lib.hid (UB.out.below hb)
  replace UC := Lib.hid (UC.out.below hb)
  replace U4 := Lib.hid (U4.out.below hb)
  have U5 := Lib.hid ho.reads
  have L5 : Hid ((srtI ((b) ++ (a))).length ≤ 200) := or_len _ _ _ _ _ LB.out LA.out (by omega)
  clear ho hb C5
  have UE : Hid (NS w6 u5 (srtI ((a) ++ (b)))) := by have := U5.out; rw [law2 b a] at this; exact this
  have C6 := Lib.hid (same_any u4 u5 (srtI ((a) ++ (b))) w6 U4.out UE.out (by have := L4.out; omega))
  clear UE
  go_wp2_with fail
  refine C6.out.mono ?_
  rintro e w7 ⟨rfl, hb⟩
  have HB7 := Lib.hid (HB6.out.trans (hb.mono hn6))
  have hn7 := Nat.le_trans hn6 hb.size
  replace UA := Lib.hid (UA.out.below hb)
  replace UB := Lib.hid (UB.out.below hb)
  replace UC := Lib.hid (UC.out.below hb)
  replace U4 := Lib.hid (U4.out.below hb)
  replace U5 := Lib.hid (U5.out.below hb)
  clear hb C6
  clear U4 U5
  have C7 := Lib.hid (or18_any (.slice Ab nb cb) (.slice Ac nc cc) (b) (c) w7 UB.out UC.out (by have := LB.out; omega) (by have := LC.out; omega))
  go_wp2_with fail
  refine C7.out.mono ?_
  rintro e w8 ⟨u7, rfl, ho, hb⟩
  have HB8 := Lib.hid (HB7.out.trans (hb.mono hn7))
  have hn8 := Nat.le_trans hn7 hb.size
  replace UA := Lib.hid (UA.out.below hb)
  replace UB := Lib.hid (UB.out.below hb)
  replace UC := Lib.hid (UC.out.below hb)
  have U7 := Lib.hid ho.reads
  have L7 : Hid ((srtI ((b) ++ (c))).length ≤ 200) := or_len _ _ _ _ _ LB.out LC.out (by omega)
  clear ho hb C7
  have C8 := Lib.hid (and18_any (.slice Aa na ca) (u7) (a) (srtI ((b) ++ (c))) w8 UA.out U7.out (by have := LA.out; omega) (by have := L7.out; omega))
  go_wp2_with fail
  refine C8.out.mono ?_
  rintro e w9 ⟨u8, rfl, ho, hb⟩
  have HB9 := Lib.hid (HB8.out.trans (hb.mono hn8))
  have hn9 := Nat.le_trans hn8 hb.size
  replace UA := Lib.hid (UA.out.below hb)
  replace UB := Lib.hid (UB.out.below hb)
  replace UC := Lib.hid (UC.out.below hb)
  replace U7 := Lib.hid (U7.out.below hb)
  have U8 := Lib.hid ho.reads
  have L8 : Hid ((both (a) (srtI ((b) ++ (c))) true).length ≤ 100) := both_len _ _ _ _ LA.out
  clear ho hb C8
  clear U7
  have C9 := Lib.hid (and18_any (.slice Aa na ca) (.slice Ab nb cb) (a) (b) w9 UA.out UB.out (by have := LA.out; omega) (by have := LB.out; omega))
  go_wp2_with fail
  refine C9.out.mono ?_
  rintro e w10 ⟨u9, rfl, ho, hb⟩
  have HB10 := Lib.hid (HB9.out.trans (hb.mono hn9))
  have hn10 := Nat.le_trans hn9 hb.size
  replace UA := Lib.hid (UA.out.below hb)
  replace UB := Lib.hid (UB.out.below hb)
  replace UC := Lib.hid (UC.out.below hb)
  replace U8 := Lib.hid (U8.out.below hb)
  have U9 := Lib.hid ho.reads
  have L9 : Hid ((both (a) (b) true).length ≤ 100) := both_len _ _ _ _ LA.out
  clear ho hb C9
  have C10 := Lib.hid (and18_any (.slice Aa na ca) (.slice Ac nc cc) (a) (c) w10 UA.out UC.out (by have := LA.out; omega) (by have := LC.out; omega))
  go_wp2_with fail
  refine C10.out.mono ?_
  rintro e w11 ⟨u10, rfl, ho, hb⟩
  have HB11 := Lib.hid (HB10.out.trans (hb.mono hn10))
  have hn11 := Nat.le_trans hn10 hb.size
  replace UA := Lib.hid (UA.out.below hb)
  replace UB := Lib.hid (UB.out.below hb)
  replace UC := Lib.hid (UC.out.below hb)
  replace U8 := Lib.hid (U8.out.below hb)
  replace U9 := Lib.hid (U9.out.below hb)
  have U10 := Lib.hid ho.reads
  have L10 : Hid ((both (a) (c) true).length ≤ 100) := both_len _ _ _ _ LA.out
  clear ho hb C10
  have C11 := Lib.hid (or18_any (u9) (u10) (both (a) (b) true) (both (a) (c) true) w11 U9.out U10.out (by have := L9.out; omega) (by have := L10.out; omega))
  go_wp2_with fail
  refine C11.out.mono ?_
  rintro e w12 ⟨u11, rfl, ho, hb⟩
  have HB12 := Lib.hid (HB11.out.trans (hb.mono hn11))
  have hn12 := Nat.le_trans hn11 hb.size
  replace UA := Lib.hid (UA.out.below hb)
  replace UB := Lib.hid (UB.out.below hb)
  replace UC := Lib.hid (UC.out.below hb)
  replace U8 := Lib.hid (U8.out.below hb)
  replace U9 := Lib.hid (U9.out.below hb)
  replace U10 := Lib.hid (U10.out.below hb)
  have U11 := Lib.hid ho.reads
  have L11 : Hid ((srtI ((both (a) (b) true) ++ (both (a) (c) true))).length ≤ 200) := or_len _ _ _ _ _ L9.out L10.out (by omega)
  clear ho hb C11
  clear U9 U10
  have UE : Hid (NS w12 u11 (both (a) (srtI ((b) ++ (c))) true)) := by have := U11.out; rw [← law3 a b c] at this; exact this
  have C12 := Lib.hid (same_any u8 u11 (both (a) (srtI ((b) ++ (c))) true) w12 U8.out UE.out (by have := L8.out; omega))
  clear UE
  go_wp2_with fail
  refine C12.out.mono ?_
  rintro e w13 ⟨rfl, hb⟩
  have HB13 := Lib.hid (HB12.out.trans (hb.mono hn12))
  have hn13 := Nat.le_trans hn12 hb.size
  replace UA := Lib.hid (UA.out.below hb)
  replace UB := Lib.hid (UB.out.below hb)
  replace UC := Lib.hid (UC.out.below hb)
  replace U8 := Lib.hid (U8.out.below hb)
  replace U11 := Lib.hid (U11.out.below hb)
  clear hb C12
  clear U8 U11
  have C13 := Lib.hid (less18_any (.slice Aa na ca) (.slice Ab nb cb) (a) (b) w13 UA.out UB.out (by have := LA.out; omega) (by have := LB.out; omega))
  go_wp2_with fail
  refine C13.out.mono ?_
  rintro e w14 ⟨u13, rfl, ho, hb⟩
  have HB14 := Lib.hid (HB13.out.trans (hb.mono hn13))
  have hn14 := Nat.le_trans hn13 hb.size
  replace UA := Lib.hid (UA.out.below hb)
  replace UB := Lib.hid (UB.out.below hb)
  replace UC := Lib.hid (UC.out.below hb)
  have U13 := Lib.hid ho.reads
  have L13 : Hid ((both (a) (b) false).length ≤ 100) := both_len _ _ _ _ LA.out
  clear ho hb C13
  have C14 := Lib.hid (and18_any (.slice Aa na ca) (.slice Ab nb cb) (a) (b) w14 UA.out UB.out (by have := LA.out; omega) (by have := LB.out; omega))
  go_wp2_with fail
  refine C14.out.mono ?_
  rintro e w15 ⟨u14, rfl, ho, hb⟩
  have HB15 := Lib.hid (HB14.out.trans (hb.mono hn14))
  have hn15 := Nat.le_trans hn14 hb.size
  replace UA := Lib.hid (UA.out.below hb)
  replace UB := Lib.hid (UB.out.below hb)
  replace UC := Lib.hid (UC.out.below hb)
  replace U13 := Lib.hid (U13.out.below hb)
  have U14 := Lib.hid ho.reads
  have L14 : Hid ((both (a) (b) true).length ≤ 100) := both_len _ _ _ _ LA.out
  clear ho hb C14
  have C15 := Lib.hid (or18_any (u13) (u14) (both (a) (b) false) (both (a) (b) true) w15 U13.out U14.out (by have := L13.out; omega) (by have := L14.out; omega))
  go_wp2_with fail
  refine C15.out.mono ?_
  rintro e w16 ⟨u15, rfl, ho, hb⟩
  have HB16 := Lib.hid (HB15.out.trans (hb.mono hn15))
  have hn16 := Nat.le_trans hn15 hb.size
  replace UA := Lib.hid (UA.out.below hb)
  replace UB := Lib.hid (UB.out.below hb)
  replace UC := Lib.hid (UC.out.below hb)
  replace U13 := Lib.hid (U13.out.below hb)
  replace U14 := Lib.hid (U14.out.below hb)
  have U15 := Lib.hid ho.reads
  have L15 : Hid ((srtI ((both (a) (b) false) ++ (both (a) (b) true))).length ≤ 200) := or_len _ _ _ _ _ L13.out L14.out (by omega)
  clear ho hb C15
  clear U13 U14
  have C16 := Lib.hid (of_any (.slice Aa na ca) a w16 UA.out (by have := LA.out; omega))
  go_wp2_with fail
  refine C16.out.mono ?_
  rintro e w17 ⟨u16, rfl, ho, hb⟩
  have HB17 := Lib.hid (HB16.out.trans (hb.mono hn16))
  have hn17 := Nat.le_trans hn16 hb.size
  replace UA := Lib.hid (UA.out.below hb)
  replace UB := Lib.hid (UB.out.below hb)
  replace UC := Lib.hid (UC.out.below hb)
  replace U15 := Lib.hid (U15.out.below hb)
  have U16 := Lib.hid ho.reads
  have L16 : Hid ((srtI a).length ≤ 100) := Nat.le_trans (srtI_len a) LA.out
  clear ho hb C16
  have UE : Hid (NS w17 u16 (srtI ((both (a) (b) false) ++ (both (a) (b) true)))) := by have := U16.out; rw [← law4 a b] at this; exact this
  have C17 := Lib.hid (same_any u15 u16 (srtI ((both (a) (b) false) ++ (both (a) (b) true))) w17 U15.out UE.out (by have := L15.out; omega))
  clear UE
  go_wp2_with fail
  refine C17.out.mono ?_
  rintro e w18 ⟨rfl, hb⟩
  have HB18 := Lib.hid (HB17.out.trans (hb.mono hn17))
  have hn18 := Nat.le_trans hn17 hb.size
  replace UA := Lib.hid (UA.out.below hb)
  replace UB := Lib.hid (UB.out.below hb)
  replace UC := Lib.hid (UC.out.below hb)
  replace U15 := Lib.hid (U15.out.below hb)
  replace U16 := Lib.hid (U16.out.below hb)
  clear hb C17
  clear U15 U16
  have C18 := Lib.hid (or18_any (.slice Ab nb cb) (.slice Ac nc cc) (b) (c) w18 UB.out UC.out (by have := LB.out; omega) (by have := LC.out; omega))
  go_wp2_with fail
  refine C18.out.mono ?_
  rintro e w19 ⟨u18, rfl, ho, hb⟩
  have HB19 := Lib.hid (HB18.out.trans (hb.mono hn18))
  have hn19 := Nat.le_trans hn18 hb.size
  replace UA := Lib.hid (UA.out.below hb)
  replace UB := Lib.hid (UB.out.below hb)
  replace UC := Lib.hid (UC.out.below hb)
  have U18 := Lib.hid ho.reads
  have L18 : Hid ((srtI ((b) ++ (c))).length ≤ 200) := or_len _ _ _ _ _ LB.out LC.out (by omega)
  clear ho hb C18
  have C19 := Lib.hid (less18_any (.slice Aa na ca) (u18) (a) (srtI ((b) ++ (c))) w19 UA.out U18.out (by have := LA.out; omega) (by have := L18.out; omega))
  go_wp2_with fail
  refine C19.out.mono ?_
  rintro e w20 ⟨u19, rfl, ho, hb⟩
  have HB20 := Lib.hid (HB19.out.trans (hb.mono hn19))
  have hn20 := Nat.le_trans hn19 hb.size
  replace UA := Lib.hid (UA.out.below hb)
  replace UB := Lib.hid (UB.out.below hb)
  replace UC := Lib.hid (UC.out.below hb)
  replace U18 := Lib.hid (U18.out.below hb)
  have U19 := Lib.hid ho.reads
  have L19 : Hid ((both (a) (srtI ((b) ++ (c))) false).length ≤ 100) := both_len _ _ _ _ LA.out
  clear ho hb C19
  clear U18
  have C20 := Lib.hid (less18_any (.slice Aa na ca) (.slice Ab nb cb) (a) (b) w20 UA.out UB.out (by have := LA.out; omega) (by have := LB.out; omega))
  go_wp2_with fail
  refine C20.out.mono ?_
  rintro e w21 ⟨u20, rfl, ho, hb⟩
  have HB21 := Lib.hid (HB20.out.trans (hb.mono hn20))
  have hn21 := Nat.le_trans hn20 hb.size
  replace UA := Lib.hid (UA.out.below hb)
  replace UB := Lib.hid (UB.out.below hb)
  replace UC := Lib.hid (UC.out.below hb)
  replace U19 := Lib.hid (U19.out.below hb)
  have U20 := Lib.hid ho.reads
  have L20 : Hid ((both (a) (b) false).length ≤ 100) := both_len _ _ _ _ LA.out
  clear ho hb C20
  have C21 := Lib.hid (less18_any (.slice Aa na ca) (.slice Ac nc cc) (a) (c) w21 UA.out UC.out (by have := LA.out; omega) (by have := LC.out; omega))
  go_wp2_with fail
  refine C21.out.mono ?_
  rintro e w22 ⟨u21, rfl, ho, hb⟩
  have HB22 := Lib.hid (HB21.out.trans (hb.mono hn21))
  have hn22 := Nat.le_trans hn21 hb.size
  replace UA := Lib.hid (UA.out.below hb)
  replace UB := Lib.hid (UB.out.below hb)
  replace UC := Lib.hid (UC.out.below hb)
  replace U19 := Lib.hid (U19.out.below hb)
  replace U20 := Lib.hid (U20.out.below hb)
  have U21 := Lib.hid ho.reads
  have L21 : Hid ((both (a) (c) false).length ≤ 100) := both_len _ _ _ _ LA.out
  clear ho hb C21
  have C22 := Lib.hid (and18_any (u20) (u21) (both (a) (b) false) (both (a) (c) false) w22 U20.out U21.out (by have := L20.out; omega) (by have := L21.out; omega))
  go_wp2_with fail
  refine C22.out.mono ?_
  rintro e w23 ⟨u22, rfl, ho, hb⟩
  have HB23 := Lib.hid (HB22.out.trans (hb.mono hn22))
  have hn23 := Nat.le_trans hn22 hb.size
  replace UA := Lib.hid (UA.out.below hb)
  replace UB := Lib.hid (UB.out.below hb)
  replace UC := Lib.hid (UC.out.below hb)
  replace U19 := Lib.hid (U19.out.below hb)
  replace U20 := Lib.hid (U20.out.below hb)
  replace U21 := Lib.hid (U21.out.below hb)
  have U22 := Lib.hid ho.reads
  have L22 : Hid ((both (both (a) (b) false) (both (a) (c) false) true).length ≤ 100) := both_len _ _ _ _ L20.out
  clear ho hb C22
  clear U20 U21
  have UE : Hid (NS w23 u22 (both (a) (srtI ((b) ++ (c))) false)) := by have := U22.out; rw [← law5 a b c] at this; exact this
  have C23 := Lib.hid (same_any u19 u22 (both (a) (srtI ((b) ++ (c))) false) w23 U19.out UE.out (by have := L19.out; omega))
  clear UE
  go_wp2_with fail
  refine C23.out.mono ?_
  rintro e w24 ⟨rfl, hb⟩
  have HB24 := Lib.hid (HB23.out.trans (hb.mono hn23))
  have hn24 := Nat.le_trans hn23 hb.size
  replace UA := Lib.hid (UA.out.below hb)
  replace UB := Lib.hid (UB.out.below hb)
  replace UC := Lib.hid (UC.out.below hb)
  replace U19 := Lib.hid (U19.out.below hb)
  replace U22 := Lib.hid (U22.out.below hb)
  clear hb C23
  clear U19 U22
  go_wp2
  go_ret
  exact ⟨rfl, HB24.out⟩
end Go.Proofs.Ytlgodokgebjjaaa

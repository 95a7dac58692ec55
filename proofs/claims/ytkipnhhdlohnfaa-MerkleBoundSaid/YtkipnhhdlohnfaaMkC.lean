/- Leaf, of both. -/
import Derived.RangeFuncNested
import Derived.RangeFuncBound
import Derived.RangeFuncCalls
import Derived.RangeFuncLeaves
import Derived.Shelf.Abstract
import Derived.Shelf.RegionOpen
import Derived.WalkKit
import Derived.OwnWalkIn
import Derived.TacticsInMore
import Derived.LoopNIn
import Derived.LoopIn
import Derived.Outline
import Derived.Lib.Hide
import Derived.Lib.SliceRun
import Derived.IntWalk
import Derived.WalkLawsBesides
import Derived.WalkSpells
import Derived.Laws.BitsAllLaws
import Derived.Lib.ConvBytes
import Derived.Maps.AppendAt
import Derived.Lib.AppendStr
import Derived.Lib.SlBytesConst
import Derived.Laws.AppendOwnNone
import Derived.Laws.OwnMore
import Derived.Laws.BytesArg
import Derived.Deep.RegionHeld3
import Derived.BigQuiet
import Derived.Deep.RegionLaw
import Derived.Deep.QuietTactic
import Derived.Lib.OthersKept
import Derived.Test.YtkipnhhdlohnfaaProg
import Derived.Deep.DeepFit
import Derived.Test.YtkipnhhdlohnfaaMkB
set_option linter.unusedVariables false
set_option linter.unusedSimpArgs false
namespace Go.Proofs.Ytkipnhhdlohnfaa
open Go Go.RowKit Go.Shelf

theorem one_new (w : World) : ∃ W A, w.alloc (.cells #[.int .u8 0, .int .u8 0, .int .u8 0, .int .u8 0, .int .u8 0, .int .u8 0, .int .u8 0, .int .u8 0, .int .u8 0, .int .u8 0, .int .u8 0, .int .u8 0, .int .u8 0, .int .u8 0, .int .u8 0, .int .u8 0, .int .u8 0, .int .u8 0, .int .u8 0, .int .u8 0, .int .u8 0, .int .u8 0, .int .u8 0, .int .u8 0, .int .u8 0, .int .u8 0, .int .u8 0, .int .u8 0, .int .u8 0, .int .u8 0, .int .u8 0, .int .u8 0] 24) = W ∧ w.heap.size = A ∧ W.heap.size = A + 1 ∧ Row W A 24 Z32 ∧ Below A w W :=
  ⟨_, _, rfl, rfl, by show (w.heap.push _).size = _; simp, Row.new w #[.int .u8 0, .int .u8 0, .int .u8 0, .int .u8 0, .int .u8 0, .int .u8 0, .int .u8 0, .int .u8 0, .int .u8 0, .int .u8 0, .int .u8 0, .int .u8 0, .int .u8 0, .int .u8 0, .int .u8 0, .int .u8 0, .int .u8 0, .int .u8 0, .int .u8 0, .int .u8 0, .int .u8 0, .int .u8 0, .int .u8 0, .int .u8 0, .int .u8 0, .int .u8 0, .int .u8 0, .int .u8 0, .int .u8 0, .int .u8 0, .int .u8 0, .int .u8 0] 24, (Below.refl _ w).alloc (Nat.le_refl _) _⟩
theorem alloc_size (w : World) (o : Obj) : (w.alloc o).heap.size = w.heap.size + 1 := by show (w.heap.push _).size = _; simp

set_option maxHeartbeats 2000000 in
set_option maxRecDepth 100000 in
/-- **merkle.Leaf** -/
theorem leaf_any (v : Value) (b : List UInt8) (w : World) (hv : SB w v b) (hmax : b.length ≤ 10000) :
    Calls Try.prog 20 #[v] w fun e w' => e = .returned (.agg (enc8 (leafL b)).toArray) ∧ Below w.heap.size w w' := by
  obtain ⟨C, c, rfl, -⟩ := hv.form
  obtain ⟨W, A, hW, hA, hsz, r0, hb⟩ := one_new w
  have hv1 : SB W (.slice C b.length c) b := hv.below (by rw [hA]; exact hb)
  have s1 : SB (W.alloc (.cells #[.int .u8 0] 5)) (.slice (some ⟨A + 1, 0, none⟩) 1 1) [0] := by
    have := (OB_lit W #[.int .u8 0] [0] (by decide) rfl).reads
    rwa [hsz] at this
  have bd : Below W.heap.size W (W.alloc (.cells #[.int .u8 0] 5)) := (Below.refl _ _).alloc (Nat.le_refl _) _
  have s2 := hv1.below bd
  have hss := SS_new (W.alloc (.cells #[.int .u8 0] 5)) [.slice (some ⟨A + 1, 0, none⟩) 1 1, .slice C b.length c] [[0], b] 22 rfl (by simp) (by
    intro i v x hv hx
    match i with
    | 0 => simp at hv hx; subst hv hx; exact s1
    | 1 => simp at hv hx; subst hv hx; exact s2
    | i + 2 => simp at hv)
  rw [show (W.alloc (.cells #[.int .u8 0] 5)).heap.size = A + 1 + 1 by rw [alloc_size, hsz], show ([[0], b] : List (List UInt8)).length = 2 from rfl] at hss
  have hj := join_any _ _ _ hss (by simp; omega)
  rw [show ([[0], b] : List (List UInt8)).flatten = 0 :: b by simp] at hj
  have hnl := leafL_length b
  obtain ⟨out, hout⟩ : ∃ out, leafL b = out := ⟨_, rfl⟩
  rw [show sumL (0 :: b) = out from hout] at hj
  rw [hout] at hnl ⊢
  have HJ := Lib.hid hj
  have HW := Lib.hid hW
  have HB := Lib.hid hb
  have R0 := Lib.hid r0
  have Hol := Lib.hid hnl
  clear hj hW hb hss s1 s2 bd r0 hnl hout hv hv1
  go_enter Try.func20, Try.ntmps20
  go_wp2_with fail
  rw [HW.out]
  refine HJ.out.mono ?_
  rintro e wj ⟨rfl, hbj⟩
  have rj := (((R0.out.alloc (.cells #[.int .u8 0] 5)).alloc (.cells #[.slice (some ⟨A + 1, 0, none⟩) 1 1, .slice C b.length c] 22))).below' hbj (Nat.le_refl _)
  have R1 := Lib.hid rj
  have RR := Lib.hid (rj.setRow (enc8 out))
  have m0 : Mine A w W := ⟨by omega, HB.out⟩
  have hbz := (((m0.alloc (.cells #[.int .u8 0] 5)).alloc (.cells #[.slice (some ⟨A + 1, 0, none⟩) 1 1, .slice C b.length c] 22))).call hbj
  have HBz := Lib.hid (below_setRow hbz.bel (Nat.le_refl A) (enc8 out).toArray)
  clear hbj rj hbz m0 HJ R0 HB
  go_wp2_with (refine R1.out.store (m := enc8 out) rfl 24 (.tmp 2) (.tmp 6) rfl rfl rfl (by rw [enc8_len, Hol.out]; kernel_rfl) (by rw [enc8_len, enc8_len, Hol.out, List.length_replicate]) (enc8_all _) ?_)
  refine bodyPost_ret (v := .agg (enc8 out).toArray) (RR.out.result Try.results20 _ _ _ rfl Try.underlying24 (by rw [enc8_len, Hol.out]; kernel_rfl)) rfl ?_
  exact ⟨rfl, by rw [hA]; exact HBz.out⟩

set_option maxHeartbeats 2000000 in
set_option maxRecDepth 100000 in
/-- **the reference's Leaf** -/
theorem qleaf_any (v : Value) (b : List UInt8) (w : World) (hv : SB w v b) (hmax : b.length ≤ 10000) :
    Calls Try.prog 21 #[v] w fun e w' => e = .returned (.agg (enc8 (leafL b)).toArray) ∧ Below w.heap.size w w' := by
  obtain ⟨W, A, hW, hA, hsz, r0, hb⟩ := one_new w
  have hv1 : SB W v b := hv.below (by rw [hA]; exact hb)
  have o1 : OB (W.alloc (.cells #[.int .u8 0] 5)) (A + 1) (.slice (some ⟨A + 1, 0, none⟩) 1 1) [0] := by
    have := OB_lit W #[.int .u8 0] [0] (by decide) rfl
    rwa [hsz] at this
  have s2 : SB (W.alloc (.cells #[.int .u8 0] 5)) v b := hv1.below ((Below.refl _ _).alloc (Nat.le_refl _) _)
  have r1 := r0.alloc (.cells #[.int .u8 0] 5)
  have m0 : Mine A w W := ⟨by omega, hb⟩
  have m1 := m0.alloc (.cells #[.int .u8 0] 5)
  have hsz1 : (W.alloc (.cells #[.int .u8 0] 5)).heap.size = A + 1 + 1 := by rw [alloc_size, hsz]
  have hnl := leafL_length b
  obtain ⟨out, hout⟩ : ∃ out, leafL b = out := ⟨_, rfl⟩
  have hout2 : sumL ([0] ++ b) = out := hout
  rw [hout] at hnl ⊢
  have O1 := Lib.hid o1
  have S2 := Lib.hid s2
  have HW := Lib.hid hW
  have R1 := Lib.hid r1
  have M1 := Lib.hid m1
  have Hol := Lib.hid hnl
  have HO := Lib.hid hout2
  have Hs := Lib.hid hsz1
  have Hm := Lib.hid hmax
  clear hW hb o1 s2 r0 r1 hnl hout hout2 hv hv1 m0 m1 hsz1 hmax
  go_enter Try.func21, Try.ntmps21
  go_wp2_with (refine wpB_append rfl _ _ rfl (A + 1) _ _ [0] b rfl (by rw [HW.out]; exact O1.out) rfl (by rw [HW.out]; exact S2.out) (by have := Hm.out; simp; omega) (by rw [HW.out, Hs.out]; omega) ?_)
  intro v1 w1 hown1 hg1 hb1
  rw [HW.out] at hb1 hg1
  have r2 := R1.out.below hb1 (Nat.lt_succ_self A)
  have m2 : Mine A w w1 := M1.out.callN hb1 (Nat.le_succ A)
  have hs := rsum_any v1 ([0] ++ b) w1 hown1.reads (by have := Hm.out; simp; omega)
  rw [HO.out] at hs
  have HS' := Lib.hid hs
  have R2 := Lib.hid r2
  have M2 := Lib.hid m2
  clear hown1 hg1 hb1 hs r2 m2 R1 M1 HW
  go_wp2_with fail
  refine HS'.out.mono ?_
  rintro e wj ⟨rfl, hbj⟩
  have rj := R2.out.below' hbj (Nat.le_refl _)
  have R3 := Lib.hid rj
  have RR := Lib.hid (rj.setRow (enc8 out))
  have HBz := Lib.hid (below_setRow (M2.out.call hbj).bel (Nat.le_refl A) (enc8 out).toArray)
  clear hbj rj HS' R2 M2
  go_wp2_with (refine R3.out.store (m := enc8 out) rfl 24 (.tmp 2) (.tmp 6) rfl rfl rfl (by rw [enc8_len, Hol.out]; kernel_rfl) (by rw [enc8_len, enc8_len, Hol.out, List.length_replicate]) (enc8_all _) ?_)
  refine bodyPost_ret (v := .agg (enc8 out).toArray) (RR.out.result Try.results21 _ _ _ rfl Try.underlying24 (by rw [enc8_len, Hol.out]; kernel_rfl)) rfl ?_
  exact ⟨rfl, by rw [hA]; exact HBz.out⟩
end Go.Proofs.Ytkipnhhdlohnfaa

/- What is due: awake. -/
import Derived.RangeFuncNested
import Derived.RangeFuncBound
import Derived.RangeFuncCalls
import Derived.RangeFuncLeaves
import Derived.Shelf.Abstract
import Derived.Shelf.RegionOpen
import Derived.WalkKit
import Derived.OwnWalkIn
import Derived.TacticsInMore
import Derived.LoopNIn
import Derived.LoopIn
import Derived.Outline
import Derived.Lib.Hide
import Derived.Lib.SliceRun
import Derived.IntWalk
import Derived.WalkLawsBesides
import Derived.WalkSpells
import Derived.Laws.BitsAllLaws
import Derived.Lib.ConvBytes
import Derived.Maps.AppendAt
import Derived.Lib.AppendStr
import Derived.Lib.SlBytesConst
import Derived.Laws.AppendOwnNone
import Derived.Laws.OwnMore
import Derived.Laws.BytesArg
import Derived.Deep.RegionHeld3
import Derived.BigQuiet
import Derived.Deep.RegionLaw
import Derived.Deep.QuietTactic
import Derived.Test.YtlgmocmekmppeaaProg
import Derived.Test.YtlgmocmekmppeaaDuE
import Derived.Test.YtlgmocmekmppeaaDuG
set_option linter.unusedVariables false
set_option linter.unusedSimpArgs false
namespace Go.Proofs.Ytlgmocmekmppeaa
open Go Go.RowKit Go.Shelf

set_option maxRecDepth 100000 in
set_option maxHeartbeats 1000000 in
theorem awake21_any (w : World) : Calls Try.prog 27 #[] w fun e w' => e = .returned (.bool true) ∧ Below w.heap.size w w' := by
  obtain ⟨base, hbase⟩ : ∃ base, base = w.heap.size := ⟨_, rfl⟩
  have Hb := Lib.hid hbase
  clear hbase
  go_enter Try.func27, Try.ntmps27
  go_wp2_with fail
  refine (dnew_any base (fun _ => False) _ (fun _ h => h.elim)).mono ?_
  rintro e w1 ⟨rfl, hs1, hk1⟩
  obtain ⟨B, hB⟩ : ∃ B, B = w.heap.size := ⟨_, rfl⟩
  rw [← hB] at hs1 ⊢
  have hBb : base ≤ B := by rw [Hb.out, hB]; exact Nat.le_refl _
  have Hs1 := Lib.hid hs1
  have Hk1 := Lib.hid hk1
  have HBb := Lib.hid hBb
  clear hs1 hk1 hB hBb
  go_wp2_with fail
  refine (delay_any 3 w1 ⟨by omega, by omega⟩).mono ?_
  rintro e w2 ⟨rfl, hw2⟩
  obtain rfl := hw2
  rw [show dlyL 3 = 240 by decide]
  go_wp2_with fail
  refine (delay_any 9 _ ⟨by omega, by omega⟩).mono ?_
  rintro e w2 ⟨rfl, hw2⟩
  obtain rfl := hw2
  rw [show dlyL 9 = 14400 by decide]
  go_wp2_with fail
  refine (dpush_any base B 5 2 [] _ (fun _ => False) Hs1.out (by simp) HBb.out).mono ?_
  rintro e w2 ⟨rfl, hs2, hk2⟩
  have Hs2 : Hid (HS w2 base B (fun _ => False) [((5 : Int), (2 : Int))]) := hs2
  have Hk2 := Lib.hid (Hk1.out.trans hk2)
  clear hs2 hk2
  go_wp2_with fail
  refine (dpop_late base B 4 ((5 : Int), (2 : Int)) [] (by decide) (by simp) _ (fun _ => False) Hs2.out).mono ?_
  rintro e w3 ⟨rfl, hs3, hk3⟩
  have Hs3 := Lib.hid hs3
  have Hk3 := Lib.hid (Hk2.out.trans hk3)
  clear hs3 hk3
  go_wp2_with fail
  refine (dpop_due base B 5 ((5 : Int), (2 : Int)) ((5 : Int), (2 : Int)) [] [] (by decide) (by simp) (by decide) HBb.out _ (fun _ => False) (Hs3.out.alloc _)).mono ?_
  rintro e w4 ⟨rfl, hs4, hk4⟩
  have Hk4 := Lib.hid ((Hk3.out.trans (KeepOn.alloc _ _ _ _)).trans hk4)
  clear hs4 hk4
  go_wp2
  go_ret
  have hk := Hk4.out.trans (KeepOn.alloc base (fun _ => False) _ (.cells #[.int .i64 5, .int .i64 2] 50))
  have hb := Hb.out
  subst hb
  exact ⟨rfl, hk.below (Nat.le_refl _)⟩

theorem i64_of {a : Int} (h : (Lit.int .i64 a).wf = true) : -9223372036854775808 ≤ a ∧ a ≤ 9223372036854775807 := by
  simp [Lit.wf, IntKind.min, IntKind.max, IntKind.signed, IntKind.bits] at h
  omega
set_option maxRecDepth 100000 in
set_option maxHeartbeats 1000000 in
theorem dueDelays_walk0 (t n d : Int) (w : World) (h1 : -9223372036854775808 ≤ t ∧ t ≤ 9223372036854775807) (h2 : -9223372036854775808 ≤ n ∧ n ≤ 9223372036854775807) (h3 : -9223372036854775808 ≤ d ∧ d ≤ 9223372036854775807) :
    Calls Try.prog 13 #[.int .i64 t, .int .i64 n, .int .i64 d] w fun e w' => e = .returned (.bool true) ∧ Below w.heap.size w w' := by
  have H1 := Lib.hid h1
  have H2 := Lib.hid h2
  have H3 := Lib.hid h3
  clear h1 h2 h3
  go_enter Try.func13, Try.ntmps13
  go_wp2_with fail
  refine (awake21_any _).mono ?_
  rintro e w1 ⟨rfl, hb1⟩
  go_wp2_with fail
  refine (delay_any t _ H1.out).mono ?_
  rintro e w2 ⟨rfl, hw2⟩
  obtain rfl := hw2
  obtain ⟨q, hq⟩ : ∃ q, dlyL t = q := ⟨_, rfl⟩
  have Hq := Lib.hid hq
  rw [hq]
  clear hq
  go_wp2_with fail
  refine (rdelay_any t _ H1.out).mono ?_
  rintro e w2 ⟨rfl, hw2⟩
  obtain rfl := hw2
  rw [Hq.out]
  go_wp2_with fail
  refine (after_any n d _ H2.out H3.out).mono ?_
  rintro e w2 ⟨rfl, hw2⟩
  obtain rfl := hw2
  obtain ⟨r, hr⟩ : ∃ r, aftL n d = r := ⟨_, rfl⟩
  have Hr := Lib.hid hr
  rw [hr]
  clear hr
  go_wp2_with fail
  refine (until_any n d _ H2.out H3.out).mono ?_
  rintro e w2 ⟨rfl, hw2⟩
  obtain rfl := hw2
  rw [Hr.out]
  go_wp2
  go_ret
  exact ⟨rfl, hb1⟩
theorem dueDelays_walk (t n d : Int) (w : World) (h1 : (Lit.int .i64 t).wf = true) (h2 : (Lit.int .i64 n).wf = true) (h3 : (Lit.int .i64 d).wf = true) :
    Calls Try.prog 13 #[.int .i64 t, .int .i64 n, .int .i64 d] w fun e w' => e = .returned (.bool true) ∧ Below w.heap.size w w' :=
  dueDelays_walk0 t n d w (i64_of h1) (i64_of h2) (i64_of h3)
end Go.Proofs.Ytlgmocmekmppeaa

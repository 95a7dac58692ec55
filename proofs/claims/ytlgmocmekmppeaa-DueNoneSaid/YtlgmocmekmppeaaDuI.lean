/- Nothing is due where nobody made anything. -/
import Derived.RangeFuncNested
import Derived.RangeFuncBound
import Derived.RangeFuncCalls
import Derived.RangeFuncLeaves
import Derived.Shelf.Abstract
import Derived.Shelf.RegionOpen
import Derived.WalkKit
import Derived.OwnWalkIn
import Derived.TacticsInMore
import Derived.LoopNIn
import Derived.LoopIn
import Derived.Outline
import Derived.Lib.Hide
import Derived.Lib.SliceRun
import Derived.IntWalk
import Derived.WalkLawsBesides
import Derived.WalkSpells
import Derived.Laws.BitsAllLaws
import Derived.Lib.ConvBytes
import Derived.Maps.AppendAt
import Derived.Lib.AppendStr
import Derived.Lib.SlBytesConst
import Derived.Laws.AppendOwnNone
import Derived.Laws.OwnMore
import Derived.Laws.BytesArg
import Derived.Deep.RegionHeld3
import Derived.BigQuiet
import Derived.Deep.RegionLaw
import Derived.Deep.QuietTactic
import Derived.Test.YtlgmocmekmppeaaProg
import Derived.Test.YtlgmocmekmppeaaDuH
set_option linter.unusedVariables false
set_option linter.unusedSimpArgs false
namespace Go.Proofs.Ytlgmocmekmppeaa
open Go Go.RowKit Go.Shelf

set_option maxRecDepth 100000 in
set_option maxHeartbeats 1000000 in
theorem dpush_nil (a b : Int) (w : World) :
    Calls Try.prog 31 #[.pointer none, .agg #[.int .i64 a, .int .i64 b]] w fun e w' => e = .returned (.tuple #[]) ∧ Below w.heap.size w w' := by
  go_enter Try.func31, Try.ntmps31
  go_wp2
  go_end0
  exact ⟨rfl, (Below.refl _ _).alloc (Nat.le_refl _) _⟩

set_option maxRecDepth 100000 in
set_option maxHeartbeats 1000000 in
theorem dueNone_walk0 (a b n t : Int) (w : World) (h3 : -9223372036854775808 ≤ t ∧ t ≤ 9223372036854775807) :
    Calls Try.prog 12 #[.agg #[.int .i64 a, .int .i64 b], .int .i64 n, .int .i64 t] w fun e w' => e = .returned (.bool true) ∧ Below w.heap.size w w' := by
  have H3 := Lib.hid h3
  clear h3
  obtain ⟨base, hbase⟩ : ∃ base, base = w.heap.size := ⟨_, rfl⟩
  rw [← hbase]
  have Hb := Lib.hid hbase
  clear hbase
  have kA := Lib.hid (KeepOn.alloc base (fun b => False) w (.cells #[.int .i64 a, .int .i64 b] 50))
  have sA : (w.alloc (.cells #[.int .i64 a, .int .i64 b] 50)).heap.size = w.heap.size + 1 := by show (w.heap.push _).size = _; simp
  have gA := heap_alloc_new w (.cells #[.int .i64 a, .int .i64 b] 50)
  obtain ⟨wA, hwA⟩ : ∃ wA, w.alloc (.cells #[.int .i64 a, .int .i64 b] 50) = wA := ⟨_, rfl⟩
  rw [hwA] at sA gA
  have HwA := Lib.hid hwA
  have GA := Lib.hid gA
  have SA := Lib.hid sA
  clear sA gA hwA
  go_enter Try.func12, Try.ntmps12
  go_wp2_with fail
  rw [HwA.out]
  refine (awake21_any _).mono ?_
  rintro e w1 ⟨rfl, hb1⟩
  have g1 : w1.heap[w.heap.size]? = some (.cells #[.int .i64 a, .int .i64 b] 50) := by
    rw [hb1.block w.heap.size (by have := SA.out; omega)]; exact GA.out
  have q0 : w1.cell? ⟨w.heap.size, 0, none⟩ = some (.int .i64 a) := by simp [World.cell?, g1]
  have q1 : w1.cell? ⟨w.heap.size, 1, none⟩ = some (.int .i64 b) := by simp [World.cell?, g1]
  clear g1
  go_wp2_with fail
  refine (dpush_nil a b _).mono ?_
  rintro e w2 ⟨rfl, hb2⟩
  have Hb1 := Lib.hid hb1
  have Hb2 := Lib.hid hb2
  clear hb1 hb2 q0 q1
  go_wp2_with fail
  refine (dpop_nil base (fun b => False) n _).mono ?_
  rintro e w3 ⟨rfl, hk3⟩
  have Hk3 := Lib.hid hk3
  clear hk3
  go_wp2_with fail
  refine (dnext_nil _).mono ?_
  rintro e w4 ⟨rfl, hw4⟩
  obtain ⟨q, hq⟩ : ∃ q, dlyL t = q := ⟨_, rfl⟩
  have Hq := Lib.hid hq
  have hk4 : KeepOn base (fun _ => False) w w4 := by
    rw [← hw4]
    exact ((((kA.out.trans (HwA.out ▸ KeepOn.refl base _ _)).trans (KeepOn.of_below Hb1.out)).trans (KeepOn.of_below Hb2.out)).trans Hk3.out).trans (KeepOn.alloc _ _ _ _)
  have hbel : Below base w w4 := hk4.below (by rw [Hb.out]; exact Nat.le_refl _)
  have Hbel := Lib.hid hbel
  clear hk4 hbel hw4
  have Hm := Lib.hid (@dly_mono t)
  rw [hq] at Hm
  have h60 := Hm.out.2
  have H60 := Lib.hid h60
  clear hq h60
  by_cases htm : t = 9223372036854775807
  · have hte : (t == 9223372036854775807) = true := by simp [htm]
    have Htm := Lib.hid htm
    clear htm
    go_wp2_with fail
    refine (dlen_nil _).mono ?_
    rintro e w5 ⟨rfl, hw5⟩
    go_wp2_with fail
    refine (delay_any t _ H3.out).mono ?_
    rintro e w6 ⟨rfl, hw6⟩
    rw [Hq.out]
    have h60 := H60.out
    go_wp2
    go_ret
    rw [← hw6, ← hw5]
    exact ⟨rfl, Hbel.out⟩
  · have hte : (t == 9223372036854775807) = false := by simp [htm]
    have Htm := Lib.hid htm
    clear htm
    have h31 := H3.out.1
    have h32 : t < 9223372036854775807 := by have := H3.out.2; have := Htm.out; omega
    go_wp2_with fail
    refine (dlen_nil _).mono ?_
    rintro e w5 ⟨rfl, hw5⟩
    go_wp2_with fail
    refine (delay_any t _ H3.out).mono ?_
    rintro e w6 ⟨rfl, hw6⟩
    rw [Hq.out]
    go_wp2_with fail
    refine (delay_any (t + 1) _ (by omega)).mono ?_
    rintro e w7 ⟨rfl, hw7⟩
    obtain ⟨r, hr⟩ : ∃ r, dlyL (t + 1) = r := ⟨_, rfl⟩
    have hqr : q ≤ r := by have := Hm.out.1; omega
    rw [hr]
    clear hr
    go_wp2_with fail
    refine (delay_any t _ H3.out).mono ?_
    rintro e w8 ⟨rfl, hw8⟩
    rw [Hq.out]
    have h60 := H60.out
    go_wp2
    go_ret
    rw [← hw8, ← hw7, ← hw6, ← hw5]
    exact ⟨rfl, Hbel.out⟩

theorem dueNone_walk (v : Value) (x : Item) (n t : Int) (w : World) (h1 : v = .agg #[.int .i64 x.1, .int .i64 x.2]) (h2 : (Lit.int .i64 n).wf = true) (h3 : (Lit.int .i64 t).wf = true) :
    Calls Try.prog 12 #[v, .int .i64 n, .int .i64 t] w fun e w' => e = .returned (.bool true) ∧ Below w.heap.size w w' := by
  subst h1
  exact dueNone_walk0 x.1 x.2 n t w (i64_of h3)
end Go.Proofs.Ytlgmocmekmppeaa

/- SealBound. -/
import Derived.RangeFuncNested
import Derived.RangeFuncBound
import Derived.RangeFuncCalls
import Derived.RangeFuncLeaves
import Derived.Shelf.Abstract
import Derived.Shelf.RegionOpen
import Derived.WalkKit
import Derived.OwnWalkIn
import Derived.TacticsInMore
import Derived.LoopNIn
import Derived.LoopIn
import Derived.Outline
import Derived.Lib.Hide
import Derived.Lib.SliceRun
import Derived.IntWalk
import Derived.WalkLawsBesides
import Derived.WalkSpells
import Derived.Laws.BitsAllLaws
import Derived.Lib.ConvBytes
import Derived.Maps.AppendAt
import Derived.Lib.AppendStr
import Derived.Lib.SlBytesConst
import Derived.Laws.AppendOwnNone
import Derived.Laws.OwnMore
import Derived.Laws.BytesArg
import Derived.Deep.RegionHeld3
import Derived.BigQuiet
import Derived.Deep.RegionLaw
import Derived.Deep.QuietTactic
import Derived.Lib.OthersKept
import Derived.Test.YtnepmhdnkcnnmaaProg
import Derived.Deep.DeepFit
import Derived.Test.YtnepmhdnkcnnmaaSeL
set_option linter.unusedVariables false
set_option linter.unusedSimpArgs false
namespace Go.Proofs.Ytnepmhdnkcnnmaa
open Go Go.RowKit Go.Shelf

set_option maxHeartbeats 2000000 in
set_option maxRecDepth 100000 in
theorem sealBound_walk (v : Value) (x : Sl) (u : Value) (la : List (List UInt8)) (u' : Value) (lb : List (List UInt8)) (w : World) (hv : v = .agg x.cells.toArray ∧ x.ok ∧ in64 x.s ∧ in64 x.c) (hu : HS w u la) (hu' : HS w u' lb) :
    Calls Try.prog 7 #[v, u, u'] w fun e w' => e = .returned (.bool true) ∧ Below w.heap.size w w' := by
  obtain ⟨s, c, r, p⟩ := x
  obtain ⟨rfl, ⟨hr, hp⟩, -, -⟩ := hv
  simp only at hr hp
  unfold Sl.cells
  obtain ⟨C, cc, rfl, -⟩ := hu.form
  obtain ⟨D, dd, rfl, -⟩ := hu'.form
  have f1 := fun w' hb => few06_any _ la w' (hu.below (W' := w') hb)
  have f2 := fun w' hb => few06_any _ lb w' (hu'.below (W' := w') hb)
  have h1 := fun w' hb => holds_any s c r p _ la w' (hu.below (W' := w') hb) hr hp
  have h2 := fun w' hb => holds_any s c r p _ lb w' (hu'.below (W' := w') hb) hr hp
  have sm := fun (he : la.length = lb.length) w' hb => same06_any _ _ la lb w' (hu.below (W' := w') hb) (hu'.below (W' := w') hb) he
  have ap := fun (he : la.length = lb.length) (hro : rootL la = rootL lb) (hmax : la.length ≤ 1000000) w' hb => apart_any (la.length + 1) _ _ la lb w' (by omega) hmax (hu.below (W' := w') hb) (hu'.below (W' := w') hb) he hro
  have hh : holdsB s c r la = true → holdsB s c r lb = true → la.length = lb.length ∧ rootL la = rootL lb := by
    unfold holdsB
    simp only [Bool.and_eq_true, beq_iff_eq, decide_eq_true_eq]
    rintro ⟨-, a1, a2⟩ ⟨-, b1, b2⟩
    exact ⟨by omega, by rw [a2, b2]⟩
  obtain ⟨sc, hsc, hl66, hsi, hso, r0, m0, hat⟩ := seal_box w s c r p hr hp
  obtain ⟨A, hA⟩ : ∃ A, w.heap.size = A := ⟨_, rfl⟩
  obtain ⟨x1, hx1⟩ : ∃ x, holdsB s c r la = x := ⟨_, rfl⟩
  obtain ⟨x2, hx2⟩ : ∃ x, holdsB s c r lb = x := ⟨_, rfl⟩
  obtain ⟨na, hna⟩ : ∃ n, la.length = n := ⟨_, rfl⟩
  obtain ⟨nb, hnb⟩ : ∃ n, lb.length = n := ⟨_, rfl⟩
  obtain ⟨e, he⟩ : ∃ e, (la == lb) = e := ⟨_, rfl⟩
  simp only [hsc]
  simp only [hsc, hx1, hx2, hna, hnb, he, hA] at f1 f2 h1 h2 sm ap hh
  rw [hna, hnb]
  rw [hA] at r0 m0
  have F1 := Lib.hid f1
  have F2 := Lib.hid f2
  have H1 := Lib.hid h1
  have H2 := Lib.hid h2
  have SM := Lib.hid sm
  have AP := Lib.hid ap
  have HH := Lib.hid hh
  have R0 := Lib.hid r0
  have M0 := Lib.hid m0
  have HSI := Lib.hid hsi
  clear f1 f2 h1 h2 sm ap hh r0 m0 hsi hso hat hl66 hsc hx1 hx2 hna hnb he hu hu' hr hp
  go_enter Try.func7, Try.ntmps7
  go_wp2_with fail
  refine (awake06_any _).mono ?_
  rintro e w1 ⟨rfl, hb1⟩
  have R1 := Lib.hid (R0.out.belowS hb1)
  have M1 := Lib.hid (M0.out.call hb1)
  clear hb1
  go_wp2_with fail
  refine (F1.out _ M1.out.bel).mono ?_
  rintro e w1' ⟨rfl, rfl⟩
  by_cases ka : na ≤ 20
  · have d1 : decide (na ≤ 20) = true := by simpa using ka
    rw [d1]
    go_wp2_with fail
    refine (F2.out _ M1.out.bel).mono ?_
    rintro e w1'' ⟨rfl, rfl⟩
    by_cases kb : nb ≤ 20
    · have d2 : decide (nb ≤ 20) = true := by simpa using kb
      rw [d2]
      go_wp2_with (first | (refine R1.out.sload rfl (.tmp 3) rfl rfl HSI.out ?_))
      refine (H1.out _ M1.out.bel).mono ?_
      rintro e w2 ⟨rfl, hb2⟩
      have R2 := Lib.hid (R1.out.belowS hb2)
      have M2 := Lib.hid (M1.out.call hb2)
      clear hb2
      cases x1 with
      | true =>
        go_wp2_with (first | (refine R2.out.sload rfl (.tmp 3) rfl rfl HSI.out ?_))
        refine (H2.out _ M2.out.bel).mono ?_
        rintro e w3 ⟨rfl, hb3⟩
        have M3 := Lib.hid (M2.out.call hb3)
        clear hb3
        cases x2 with
        | true =>
          obtain ⟨rfl, hro⟩ := HH.out (by first | exact trivial | rfl) (by first | exact trivial | rfl)
          have dnn : ((na : Int) == (na : Int)) = true := by simp
          go_wp2_with fail
          refine (SM.out (by first | exact trivial | rfl) _ M3.out.bel).mono ?_
          rintro e4 w4 ⟨rfl, hb4⟩
          have M4 := Lib.hid (M3.out.call hb4)
          clear hb4
          cases e with
          | true =>
            go_wp2
            go_ret
            exact ⟨rfl, by rw [hA]; exact M4.out.bel⟩
          | false =>
            go_wp2_with fail
            refine (AP.out (by first | exact trivial | rfl) hro (by omega) _ M4.out.bel).mono ?_
            rintro e5 w5 ⟨rfl, hb5⟩
            have M5 := Lib.hid (M4.out.call hb5)
            clear hb5
            go_wp2
            go_ret
            exact ⟨rfl, by rw [hA]; exact M5.out.bel⟩
        | false =>
          go_wp2
          go_ret
          exact ⟨rfl, by rw [hA]; exact M3.out.bel⟩
      | false =>
        go_wp2
        go_ret
        exact ⟨rfl, by rw [hA]; exact M2.out.bel⟩
    · have d2 : decide (nb ≤ 20) = false := by simpa using kb
      rw [d2]
      go_wp2
      go_ret
      exact ⟨rfl, by rw [hA]; exact M1.out.bel⟩
  · have d1 : decide (na ≤ 20) = false := by simpa using ka
    rw [d1]
    go_wp2
    go_ret
    exact ⟨rfl, by rw [hA]; exact M1.out.bel⟩
end Go.Proofs.Ytnepmhdnkcnnmaa

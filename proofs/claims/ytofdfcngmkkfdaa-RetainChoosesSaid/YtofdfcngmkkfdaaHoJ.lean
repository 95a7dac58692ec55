/- Same; awake and few of law14. -/
import Derived.RangeFuncNested
import Derived.RangeFuncBound
import Derived.RangeFuncCalls
import Derived.RangeFuncLeaves
import Derived.Shelf.Abstract
import Derived.Shelf.RegionOpen
import Derived.WalkKit
import Derived.OwnWalkIn
import Derived.TacticsInMore
import Derived.LoopNIn
import Derived.LoopIn
import Derived.Outline
import Derived.Lib.Hide
import Derived.Lib.SliceRun
import Derived.IntWalk
import Derived.WalkLawsBesides
import Derived.WalkSpells
import Derived.Laws.BitsAllLaws
import Derived.Lib.ConvBytes
import Derived.Maps.AppendAt
import Derived.Lib.AppendStr
import Derived.Lib.SlBytesConst
import Derived.Laws.AppendOwnNone
import Derived.Laws.OwnMore
import Derived.Laws.BytesArg
import Derived.Deep.RegionHeld3
import Derived.BigQuiet
import Derived.Deep.RegionLaw
import Derived.Deep.QuietTactic
import Derived.Lib.OthersKept
import Derived.Test.YtofdfcngmkkfdaaProg
import Derived.Deep.DeepFit
import Derived.Test.YtofdfcngmkkfdaaHoI
set_option linter.unusedVariables false
set_option linter.unusedSimpArgs false
namespace Go.Proofs.Ytofdfcngmkkfdaa
open Go Go.RowKit Go.Shelf

set_option maxRecDepth 100000 in
set_option maxHeartbeats 4000000 in
/-- Same, of slices that read alike -/
theorem rsame_any (u v : Value) (hs : List Ru) (w : World) (hmax : hs.length ≤ 1001) (hu : PV w u (ruV hs)) (hv : PV w v (ruV hs)) :
    Calls Try.prog 42 #[u, v] w fun e w' => e = .returned (.bool true) ∧ Below w.heap.size w w' := by
  have hu0 := hu
  have hv0 := hv
  obtain ⟨A, c, rfl, hc1, -⟩ := hu
  obtain ⟨A', c', rfl, hc1', -⟩ := hv
  rw [ruV_len] at hu0 hv0 hc1 hc1' ⊢
  obtain ⟨n, hn⟩ : ∃ n, hs.length = n := ⟨_, rfl⟩
  rw [hn] at hu0 hv0 hc1 hc1' hmax ⊢
  have HU := Lib.hid hu0
  have HV := Lib.hid hv0
  have HN := Lib.hid hn
  clear hu0 hv0 hn
  go_enter Try.func42, Try.ntmps42
  go_wp2
  go_loopw [13, 5] (fun i x wr => ∃ k : Nat, (i = .int .i64 (k : Int) ∧ k ≤ n) ∧ Below w.heap.size w wr) (fun i _ _ => n - (intOf i).toNat)
  case atStart => exact ⟨0, ⟨rfl, Nat.zero_le _⟩, Below.refl _ _⟩
  case round =>
    obtain ⟨k, ⟨rfl, hk⟩, hb⟩ := hrel
    by_cases hlt : k < n
    · have hkc : k < hs.length := by rw [HN.out]; exact hlt
      obtain ⟨g, o, rfl, c0, c1⟩ := (HU.out.below hb).at_ k _ (ruV_get hs k hkc)
      obtain ⟨g', o', rfl, c2, c3⟩ := (HV.out.below hb).at_ k _ (ruV_get hs k hkc)
      obtain ⟨nm, hnm⟩ : ∃ nm, hs[k].1 = nm := ⟨_, rfl⟩
      obtain ⟨kp, hkp⟩ : ∃ kp, hs[k].2 = kp := ⟨_, rfl⟩
      rw [hnm] at c0 c2
      rw [hkp] at c1 c3
      have d0 : decide (k < n) = true := decide_eq_true hlt
      have k0 : (0 : Int) ≤ (k : Int) := by omega
      have k1 : (k : Int) < (n : Int) := by omega
      have HB := Lib.hid hb
      clear hnm hkp hb
      go_wp2_with fail
      go_quiet (fail)
      go_wp2
      go_roundw
      case rel => exact ⟨k + 1, ⟨by go_num, by omega⟩, by first | exact HB.out | exact below_drewN HB.out _⟩
      case measure => simp [intOf]; omega
    · have d0 : decide (k < n) = false := decide_eq_false hlt
      go_wp2
      go_ret
      exact ⟨rfl, hb⟩
end Go.Proofs.Ytofdfcngmkkfdaa

/- RetainChecks. -/
import Derived.RangeFuncNested
import Derived.RangeFuncBound
import Derived.RangeFuncCalls
import Derived.RangeFuncLeaves
import Derived.Shelf.Abstract
import Derived.Shelf.RegionOpen
import Derived.WalkKit
import Derived.OwnWalkIn
import Derived.TacticsInMore
import Derived.LoopNIn
import Derived.LoopIn
import Derived.Outline
import Derived.Lib.Hide
import Derived.Lib.SliceRun
import Derived.IntWalk
import Derived.WalkLawsBesides
import Derived.WalkSpells
import Derived.Laws.BitsAllLaws
import Derived.Lib.ConvBytes
import Derived.Maps.AppendAt
import Derived.Lib.AppendStr
import Derived.Lib.SlBytesConst
import Derived.Laws.AppendOwnNone
import Derived.Laws.OwnMore
import Derived.Laws.BytesArg
import Derived.Deep.RegionHeld3
import Derived.BigQuiet
import Derived.Deep.RegionLaw
import Derived.Deep.QuietTactic
import Derived.Lib.OthersKept
import Derived.Test.YtofdfcngmkkfdaaProg
import Derived.Deep.DeepFit
import Derived.Test.YtofdfcngmkkfdaaReH
set_option linter.unusedVariables false
set_option linter.unusedSimpArgs false
namespace Go.Proofs.Ytofdfcngmkkfdaa
open Go Go.RowKit Go.Shelf

set_option maxRecDepth 100000 in
set_option maxHeartbeats 2000000 in
theorem retainChecks_walk (v : Value) (cs : List Cl) (u : Value) (rs : List Ru) (w : World) (hv : PV w v (clV cs) ∧ ∀ c ∈ cs, in64 c.2 ∧ c.1.size ≤ maxLen) (hu : PV w u (ruV rs) ∧ ∀ c ∈ rs, c.1.size ≤ maxLen ∧ c.2.size ≤ maxLen) :
    Calls Try.prog 6 #[v, u] w fun e w' => e = .returned (.bool true) ∧ Below w.heap.size w w' := by
  obtain ⟨hv, hcs⟩ := hv
  obtain ⟨hu, hrs⟩ := hu
  have h1 := fun w' (hb : Below w.heap.size w w') => check_any v cs u rs w' (hv.below hb) hcs (hu.below hb) hrs
  have h2 := fun w' (hb : Below w.heap.size w w') => rcheck_any v cs u rs w' (hv.below hb) hcs (hu.below hb) hrs
  obtain ⟨A, c, rfl, -, -⟩ := hv
  obtain ⟨A', c', rfl, -, -⟩ := hu
  obtain ⟨E, hE⟩ : ∃ E, checkE cs rs = E := ⟨_, rfl⟩
  simp only [hE] at h1 h2
  rw [clV_len, ruV_len] at h1 h2 ⊢
  obtain ⟨N, hN⟩ : ∃ N, cs.length = N := ⟨_, rfl⟩
  obtain ⟨M, hM⟩ : ∃ N, rs.length = N := ⟨_, rfl⟩
  rw [hN, hM] at h1 h2 ⊢
  have hf : ∀ w, Calls Try.prog 27 #[.slice A N c, .slice A' M c', .agg #[.string ByteArray.empty, .slice none 0 0, .int .i64 0]] w fun e w' => e = .returned (.bool (few13B N M 0)) ∧ Below w.heap.size w w' := fun w => few13_any A A' none N M 0 c c' 0 ByteArray.empty 0 w
  obtain ⟨fb, hfb⟩ : ∃ fb, few13B N M 0 = fb := ⟨_, rfl⟩
  simp only [hfb] at hf
  have H1 := Lib.hid h1
  have H2 := Lib.hid h2
  have HF := Lib.hid hf
  have ee : (E == E) = true := beq_self_eq_true _
  clear h1 h2 hf hE hN hM hfb hcs hrs
  cases fb with
  | false =>
    go_enter Try.func6, Try.ntmps6
    go_wp2_with fail
    refine (awake13_any _).mono ?_
    rintro e w1 ⟨rfl, b1⟩
    go_wp2_with fail
    refine (HF.out _).mono ?_
    rintro e w2 ⟨rfl, b2⟩
    go_wp2
    go_ret
    exact ⟨rfl, onB b1 b2⟩
  | true =>
    go_enter Try.func6, Try.ntmps6
    go_wp2_with fail
    refine (awake13_any _).mono ?_
    rintro e w1 ⟨rfl, b1⟩
    go_wp2_with fail
    refine (HF.out _).mono ?_
    rintro e w2 ⟨rfl, b2⟩
    have c2 := onB b1 b2
    go_wp2_with fail
    refine (H1.out _ c2).mono ?_
    rintro e w3 ⟨rfl, b3⟩
    have c3 := onB c2 b3
    go_wp2_with fail
    refine (H2.out _ c3).mono ?_
    rintro e w4 ⟨rfl, b4⟩
    have c4 := onB c3 b4
    clear b1 b2 b3 b4 c2 c3
    go_wp2
    go_ret
    exact ⟨rfl, c4⟩
end Go.Proofs.Ytofdfcngmkkfdaa

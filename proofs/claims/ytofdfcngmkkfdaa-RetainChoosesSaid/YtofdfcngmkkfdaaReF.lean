/- Check of all. -/
import Derived.RangeFuncNested
import Derived.RangeFuncBound
import Derived.RangeFuncCalls
import Derived.RangeFuncLeaves
import Derived.Shelf.Abstract
import Derived.Shelf.RegionOpen
import Derived.WalkKit
import Derived.OwnWalkIn
import Derived.TacticsInMore
import Derived.LoopNIn
import Derived.LoopIn
import Derived.Outline
import Derived.Lib.Hide
import Derived.Lib.SliceRun
import Derived.IntWalk
import Derived.WalkLawsBesides
import Derived.WalkSpells
import Derived.Laws.BitsAllLaws
import Derived.Lib.ConvBytes
import Derived.Maps.AppendAt
import Derived.Lib.AppendStr
import Derived.Lib.SlBytesConst
import Derived.Laws.AppendOwnNone
import Derived.Laws.OwnMore
import Derived.Laws.BytesArg
import Derived.Deep.RegionHeld3
import Derived.BigQuiet
import Derived.Deep.RegionLaw
import Derived.Deep.QuietTactic
import Derived.Lib.OthersKept
import Derived.Test.YtofdfcngmkkfdaaProg
import Derived.Deep.DeepFit
import Derived.Test.YtofdfcngmkkfdaaReE
set_option linter.unusedVariables false
set_option linter.unusedSimpArgs false
namespace Go.Proofs.Ytofdfcngmkkfdaa
open Go Go.RowKit Go.Shelf

/-- nothing below A has turned -/
structure Mine (A : Nat) (a w : World) : Prop where
  le : A ≤ w.heap.size
  bel : Below A a w
theorem Mine.call {A : Nat} {a w w' : World} (hb : Below w.heap.size w w') (h : Mine A a w) : Mine A a w' := ⟨Nat.le_trans h.le hb.size, h.bel.trans (hb.mono h.le)⟩
theorem Mine.alloc {A : Nat} {a w : World} (h : Mine A a w) (o : Obj) : Mine A a (w.alloc o) := ⟨by show A ≤ (w.heap.push o).size; have := h.le; simp; omega, h.bel.alloc h.le o⟩
theorem Mine.drew {A : Nat} {a w : World} (h : Mine A a w) : Mine A a w.drew := ⟨h.le, h.bel.drew⟩
theorem Mine.put {A : Nat} {a w : World} (h : Mine A a w) (p : Addr) (v : Value) (hb : A ≤ p.block) : Mine A a (w.setCell p v) := ⟨by have := h.le; simp [World.setCell]; omega, h.bel.setCell hb v⟩
theorem Mine.refl (w : World) : Mine w.heap.size w w := ⟨Nat.le_refl _, Below.refl _ _⟩
theorem Row.cell0 {W : World} {b : Nat} {t : TypeId} {x : Value} {l : List Value} (h : Row W b t (x :: l)) : W.cell? ⟨b, 0, none⟩ = some x := h.cell 0
theorem Row.cell1 {W : World} {b : Nat} {t : TypeId} {x y : Value} {l : List Value} (h : Row W b t (x :: y :: l)) : W.cell? ⟨b, 1, none⟩ = some y := h.cell 1

set_option maxRecDepth 100000 in
set_option maxHeartbeats 2000000 in
theorem check_any (v : Value) (cs : List Cl) (u : Value) (rs : List Ru) (w : World) (hv : PV w v (clV cs)) (hcs : ∀ c ∈ cs, in64 c.2 ∧ c.1.size ≤ maxLen) (hu : PV w u (ruV rs)) (hrs : ∀ c ∈ rs, c.1.size ≤ maxLen ∧ c.2.size ≤ maxLen) :
    Calls Try.prog 28 #[v, u] w fun e w' => e = .returned (.int .i64 (checkE cs rs)) ∧ Below w.heap.size w w' := by
  by_cases h1 : 1 ≤ cs.length
  · by_cases h2 : cs.length ≤ 100
    · by_cases h3 : rs.length ≤ 100
      · exact check_in v cs u rs w hv hcs hu hrs h1 h2 h3
      · rw [checkE_num (by unfold numB; rw [decide_eq_false h3, Bool.and_false])]
        obtain ⟨A, c, rfl, hc1, -⟩ := hv
        obtain ⟨A', c', rfl, hc1', -⟩ := hu
        rw [clV_len, ruV_len]
        obtain ⟨n, hn⟩ : ∃ n, cs.length = n := ⟨_, rfl⟩
        obtain ⟨m, hm⟩ : ∃ m, rs.length = m := ⟨_, rfl⟩
        rw [hn] at h1 h2 ⊢
        rw [hm] at h3 ⊢
        have d1 : ((n : Int) == 0) = false := by simp; omega
        have d1' : (n == 0) = false := by simp; omega
        have d2 : decide ((100 : Int) < (n : Int)) = false := decide_eq_false (by omega)
        have d2' : decide (100 < n) = false := decide_eq_false (by omega)
        have d3 : decide ((100 : Int) < (m : Int)) = true := decide_eq_true (by omega)
        have d3' : decide (100 < m) = true := decide_eq_true (by omega)
        clear hn hm hcs hrs hc1 hc1'
        go_enter Try.func28, Try.ntmps28
        go_wp2
        go_ret
        exact ⟨rfl, Below.refl _ _⟩
    · rw [checkE_num (by unfold numB; rw [decide_eq_false h2, Bool.and_false]; rfl)]
      obtain ⟨A, c, rfl, hc1, -⟩ := hv
      obtain ⟨A', c', rfl, hc1', -⟩ := hu
      rw [clV_len, ruV_len]
      obtain ⟨n, hn⟩ : ∃ n, cs.length = n := ⟨_, rfl⟩
      rw [hn] at h1 h2 ⊢
      have d1 : ((n : Int) == 0) = false := by simp; omega
      have d1' : (n == 0) = false := by simp; omega
      have d2 : decide ((100 : Int) < (n : Int)) = true := decide_eq_true (by omega)
      have d2' : decide (100 < n) = true := decide_eq_true (by omega)
      clear hn hcs hrs hc1 hc1'
      go_enter Try.func28, Try.ntmps28
      go_wp2
      go_ret
      exact ⟨rfl, Below.refl _ _⟩
  · rw [checkE_num (by unfold numB; rw [decide_eq_false h1]; rfl)]
    obtain ⟨A, c, rfl, hc1, -⟩ := hv
    obtain ⟨A', c', rfl, hc1', -⟩ := hu
    rw [clV_len, ruV_len]
    obtain ⟨n, hn⟩ : ∃ n, cs.length = n := ⟨_, rfl⟩
    rw [hn] at h1 ⊢
    obtain rfl : n = 0 := by omega
    clear hn hcs hrs hc1 hc1' h1
    go_enter Try.func28, Try.ntmps28
    go_wp2
    go_ret
    exact ⟨rfl, Below.refl _ _⟩

end Go.Proofs.Ytofdfcngmkkfdaa

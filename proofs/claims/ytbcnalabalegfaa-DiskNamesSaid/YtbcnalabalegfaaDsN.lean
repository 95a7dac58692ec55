/- Names. -/
import Derived.RangeFuncNested
import Derived.RangeFuncBound
import Derived.RangeFuncCalls
import Derived.RangeFuncLeaves
import Derived.Shelf.Abstract
import Derived.Shelf.RegionOpen
import Derived.WalkKit
import Derived.OwnWalkIn
import Derived.TacticsInMore
import Derived.LoopNIn
import Derived.LoopIn
import Derived.Outline
import Derived.Lib.Hide
import Derived.Lib.SliceRun
import Derived.IntWalk
import Derived.WalkLawsBesides
import Derived.WalkSpells
import Derived.Laws.BitsAllLaws
import Derived.Lib.ConvBytes
import Derived.Maps.AppendAt
import Derived.Lib.AppendStr
import Derived.Lib.SlBytesConst
import Derived.Laws.AppendOwnNone
import Derived.Laws.OwnMore
import Derived.Laws.BytesArg
import Derived.Deep.RegionHeld3
import Derived.BigQuiet
import Derived.Deep.RegionLaw
import Derived.Deep.QuietTactic
import Derived.Lib.OthersKept
import Derived.Test.YtbcnalabalegfaaProg
import Derived.Deep.DeepFit
import Derived.Test.YtbcnalabalegfaaDsM
set_option linter.unusedVariables false
set_option linter.unusedSimpArgs false
namespace Go.Proofs.Ytbcnalabalegfaa
open Go Go.RowKit Go.Shelf
open Go.Proofs (encStr)
attribute [local go_sem] Oper.semAt_some

/-- an own row of texts whose variable lies in B1 -/
def GT (n₀ B1 : Nat) (w : World) (pre : List (List UInt8)) (D : Nat → Prop) (W : World) (v : Value) : Prop :=
  Boxed W B1 49 v ∧ OT W n₀ v pre ∧ D B1 ∧ (∀ r, v.ownBlock = some r → D r) ∧ Below n₀ w W ∧ n₀ ≤ W.heap.size
theorem GT.keep {n₀ B1 : Nat} {w W W' : World} {pre : List (List UInt8)} {D : Nat → Prop} {v : Value} (h : GT n₀ B1 w pre D W v) (hk : KeepOn n₀ D W W') : GT n₀ B1 w pre D W' v := by
  obtain ⟨h1, h2, h3, h4, h5, h6⟩ := h
  exact ⟨boxed_keepOn h1 hk (.inr h3), ownsRow_keepOn h2 hk h4, h3, h4, h5.trans (hk.below h6), Nat.le_trans h6 hk.size⟩
theorem gt_put {n₀ B1 : Nat} {w W w1 : World} {M D : Nat → Prop} {v v' : Value} {pre pre' : List (List UInt8)} (hB1 : n₀ ≤ B1) (h : GT n₀ B1 w pre D W v) (hDb : ∀ b, D b → b < W.heap.size) (hMD : ∀ b, M b → b < W.heap.size ∧ ¬ D b)
    (hown : OT w1 n₀ v' pre') (hgrow : W.grownBy w1 v.ownBlock) (hnew : ∀ r, v'.ownBlock = some r → v.ownBlock = some r ∨ r = W.heap.size) :
    ∃ D', (∀ b, D b → D' b) ∧ (∀ b, D' b → b < (w1.setCell ⟨B1, 0, none⟩ v').heap.size ∧ ¬ M b) ∧ KeepOn n₀ M W (w1.setCell ⟨B1, 0, none⟩ v') ∧ GT n₀ B1 w pre' D' (w1.setCell ⟨B1, 0, none⟩ v') v' := by
  obtain ⟨h1, h2, h3, h4, h5, h6⟩ := h
  have hM1 : ¬ M B1 := fun h => (hMD B1 h).2 h3
  have k1 : KeepOn n₀ M W w1 := KeepOn.of_grown hgrow (fun r hr => ⟨(World.ownsRow.lt h2 r hr).1, fun h => (hMD r h).2 (h4 r hr)⟩)
  have k2 : KeepOn n₀ M W (w1.setCell ⟨B1, 0, none⟩ v') := k1.trans (KeepOn.setCell w1 B1 v' hB1 hM1)
  have hbx1 : Boxed w1 B1 49 v := h1.kept hgrow (h1.not_row (by decide) h2)
  have hne : some B1 ≠ v'.ownBlock := hbx1.not_row (by decide) hown
  have hsz : (w1.setCell ⟨B1, 0, none⟩ v').heap.size = w1.heap.size := by simp [World.setCell]
  refine ⟨fun b => D b ∨ v'.ownBlock = some b, fun b hb => .inl hb, fun b hb => ?_, k2, hbx1.set v', ?_, .inl h3, fun r hr => .inr hr, h5.trans (k2.below h6), Nat.le_trans h6 k2.size⟩
  · rcases hb with hb | hb
    · exact ⟨Nat.lt_of_lt_of_le (hDb b hb) k2.size, fun hm => (hMD b hm).2 hb⟩
    · refine ⟨by rw [hsz]; exact (World.ownsRow.lt hown b hb).2, fun hm => ?_⟩
      rcases hnew b hb with h | h
      · exact (hMD b hm).2 (h4 b h)
      · have := (hMD b hm).1; omega
  · exact ownsRow_keepOn (n₀ := n₀) (D := fun b => b ≠ B1) hown (KeepOn.setCell w1 B1 v' hB1 (fun h => h rfl)) (fun r hr h => hne (by rw [← h]; exact hr.symm))
theorem GT.alloc {n₀ B1 : Nat} {w W : World} {pre : List (List UInt8)} {D : Nat → Prop} {v : Value} (h : GT n₀ B1 w pre D W v) (o : Obj) : GT n₀ B1 w pre D (W.alloc o) v := h.keep (KeepOn.alloc _ _ _ _)
set_option maxRecDepth 100000 in
/-- **each** -/
theorem deach_any (w : World) (B : Nat) : Calls Try.prog 19 #[.pointer (some ⟨B, 0, none⟩)] w fun e w' => e = .returned (.func (.func 22) #[] #[.pointer (some ⟨w.heap.size, 0, none⟩)]) ∧ w' = w.alloc (.cells #[.pointer (some ⟨B, 0, none⟩)] 24) := by
  go_enter Try.func19, Try.ntmps19
  go_wp2
  go_ret
  exact ⟨rfl, rfl⟩
variable {B n : Nat} {d : Dsk} {S : Nat → Prop}
theorem DKat.rd {W : World} {B m n : Nat} {g : List UInt8 → Option Nat} {sl : List UInt8 → Value} {d : Dsk} {S : Nat → Prop} (h : DKat W B m n g sl d S) : RdD B m n g W := ⟨h.cells.cell.1, h.map⟩
theorem byName_get {g : List UInt8 → Option Nat} {ns : List (List UInt8)} {k : Nat} {x : List UInt8 × Option Nat} (h : (byName g ns)[k]? = some x) : ns[k]? = some x.1 ∧ g x.1 = x.2 := by
  unfold byName at h
  rw [List.getElem?_map] at h
  cases hk : ns[k]? with
  | none => rw [hk] at h; cases h
  | some y => rw [hk] at h; simp at h; rw [← h]; exact ⟨rfl, rfl⟩
end Go.Proofs.Ytbcnalabalegfaa

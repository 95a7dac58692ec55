/- Two appends of items: onto one item; onto a full slice. -/
import Derived.RangeFuncNested
import Derived.RangeFuncBound
import Derived.RangeFuncCalls
import Derived.RangeFuncLeaves
import Derived.Shelf.Abstract
import Derived.Shelf.RegionOpen
import Derived.WalkKit
import Derived.OwnWalkIn
import Derived.TacticsInMore
import Derived.LoopNIn
import Derived.LoopIn
import Derived.Outline
import Derived.Lib.Hide
import Derived.Lib.SliceRun
import Derived.IntWalk
import Derived.WalkLawsBesides
import Derived.WalkSpells
import Derived.Laws.BitsAllLaws
import Derived.Lib.ConvBytes
import Derived.Maps.AppendAt
import Derived.Lib.AppendStr
import Derived.Lib.SlBytesConst
import Derived.Laws.AppendOwnNone
import Derived.Laws.OwnMore
import Derived.Laws.BytesArg
import Derived.Deep.RegionHeld3
import Derived.BigQuiet
import Derived.Deep.RegionLaw
import Derived.Deep.QuietTactic
import Derived.Test.YtlgmocmekmppeaaProg
import Derived.Deep.Upon
import Derived.Test.YtlgmocmekmppeaaDuK
set_option linter.unusedVariables false
set_option linter.unusedSimpArgs false
namespace Go.Proofs.Ytlgmocmekmppeaa
open Go Go.RowKit Go.Shelf

/-- items that lie at an address -/
def LieAt (W : World) (g off : Nat) (xs : List Item) : Prop := ∀ i, i < xs.length → W.cell? ⟨g, off + i * 2, none⟩ = some (.int .i64 (itA xs i)) ∧ W.cell? ⟨g, off + i * 2 + 1, none⟩ = some (.int .i64 (itB xs i))
theorem add_at (g off j : Nat) : (⟨g, off, none⟩ : Addr).add j = ⟨g, off + j, none⟩ := by unfold Addr.add; split <;> simp_all
theorem LieAt.cells {W : World} {g off : Nat} {xs : List Item} (h : LieAt W g off xs) : ∀ j u, (itC xs)[j]? = some u → W.cell? ((⟨g, off, none⟩ : Addr).add j) = some u := by
  intro j u hj
  have hlt : j < xs.length * 2 := by
    have := (List.getElem?_eq_some_iff.1 hj).1
    rwa [itC_len] at this
  obtain ⟨a0, a1⟩ := h (j / 2) (by omega)
  obtain ⟨b0, b1⟩ := itC_get xs (j / 2) (by omega)
  rw [add_at]
  have hc : j = j / 2 * 2 ∨ j = j / 2 * 2 + 1 := by omega
  rcases hc with e | e
  · rw [← e] at b0
    rw [b0] at hj
    rw [e, a0]; exact hj
  · rw [← e] at b1
    rw [b1] at hj
    rw [e, ← Nat.add_assoc, a1]; exact hj
theorem itC_one (xs : List Item) : ∀ u ∈ itC xs, u.oneCell' = true := by
  induction xs with
  | nil => intro u hu; cases hu
  | cons x xs ih =>
    intro u hu
    simp only [itC, List.mem_cons] at hu
    rcases hu with rfl | rfl | hu
    · rfl
    · rfl
    · exact ih u hu
theorem IR.lie {W : World} {base g n c : Nat} {xs : List Item} (h : IR W base (.slice (some ⟨g, 0, none⟩) n c) xs) : LieAt W g 0 xs := by
  intro i hi
  obtain ⟨a, b, _⟩ := h.cells i hi
  rw [Nat.zero_add]
  exact ⟨a, b⟩

/-- append onto a full slice -/
theorem app_full (W : World) (A : Option Addr) (xs ys : List Item) (ad : Addr) (c : Nat) (hA : 0 < xs.length → ∃ g off, A = some ⟨g, off, none⟩ ∧ LieAt W g off xs) (g2 off2 : Nat) (had : ad = ⟨g2, off2, none⟩) (hy : LieAt W g2 off2 ys) (hy0 : 0 < ys.length)
    (hmax : xs.length + ys.length ≤ 1000000) :
    ∃ g' c' w', (Builtin.append_ #[46, 46] 46 #[.slice A xs.length xs.length, .slice (some ad) ys.length c]).run Try.prog W = .ok (.slice (some ⟨g', 0, none⟩) (xs.length + ys.length) c') w' ∧
      IR w' W.heap.size (.slice (some ⟨g', 0, none⟩) (xs.length + ys.length) c') (xs ++ ys) ∧ W.grownBy w' none := by
  obtain ⟨i0, hi, hz0, hz1, hz2⟩ := info_parts info50
  subst had
  have key : ∃ v' w', (Builtin.append_ #[46, 46] 46 #[.slice A xs.length xs.length, .slice (some ⟨g2, off2, none⟩) ys.length c]).run Try.prog W = .ok v' w' ∧ w'.ownsRow W.heap.size 50 2 v' (xs.length + ys.length) (itC xs ++ itC ys) ∧ W.grownBy w' none := by
    cases A with
    | some b =>
      refine run_append_arg_grows (P := Try.prog) W 46 46 50 i0 _ 2 16 Try.underlying46 hi hz0 hz1 hz2 rfl (by decide) b xs.length xs.length (itC xs) (itC_len xs) ?_ ⟨g2, off2, none⟩ ys.length c (itC ys) (itC_len ys) hy.cells (by omega) (by unfold maxLen; omega) (by omega)
      intro j u hj
      have hlt : j < xs.length * 2 := by
        have := (List.getElem?_eq_some_iff.1 hj).1
        rwa [itC_len] at this
      obtain ⟨g, off, e, hl⟩ := hA (by omega)
      cases e
      exact hl.cells j u hj
    | none =>
      have hx0 : xs.length = 0 := by
        rcases Nat.eq_zero_or_pos xs.length with h | h
        · exact h
        · obtain ⟨_, _, e, _⟩ := hA h; cases e
      obtain rfl : xs = [] := List.eq_nil_of_length_eq_zero hx0
      obtain ⟨v', w', hrun, r1, r2, _⟩ := run_append_own (P := Try.prog) W W.heap.size 46 46 50 i0 _ 2 16 Try.underlying46 hi hz0 hz1 hz2 rfl (by decide) (.slice none 0 0) 0 [] (World.ownsRow_nil W _ 50 2) ⟨g2, off2, none⟩ ys.length c (itC ys) (itC_len ys) hy.cells (itC_one ys) (by unfold maxLen; simp at hmax; omega) (by simp at hmax; omega) (Nat.le_refl _)
      exact ⟨v', w', hrun, r1, r2⟩
  obtain ⟨v', w', hrun, hown, hg⟩ := key
  obtain ⟨g', c', rfl⟩ := Joins.ownsRow_form hown (by omega)
  refine ⟨g', c', w', hrun, ?_, hg⟩
  unfold IR
  rw [itC_append, List.length_append]
  exact hown
/-- nothing is appended -/
theorem app_nothing (W : World) (g n c : Nat) (A : Option Addr) (c2 : Nat) (hnc : n ≤ c) :
    (Builtin.append_ #[46, 46] 46 #[.slice (some ⟨g, 0, none⟩) n c, .slice A 0 c2]).run Try.prog W = .ok (.slice (some ⟨g, 0, none⟩) n c) W := by
  obtain ⟨i0, hi, hz0, hz1, hz2⟩ := info_parts info50
  refine run_append_nothing W 46 46 46 50 i0 Try.underlying46 hi _ n c hnc _ ?_
  cases A with
  | none => exact Src.ofNil W Try.underlying46 c2
  | some a => exact Src.ofSlice W Try.underlying46 a 0 c2 [] (by simp) (fun j u h => by simp at h) (fun u h => by cases h)
/-- an append whose run is known, as a step of a region -/
theorem step_append_run {P : Program} {ops : Array Oper} {o : Oper} {a : Act} {w : World} {K : Act → World → Prop} {Q : Exit → Act → World → Prop} {E : Prop}
    (hg : o.guard = none) (s x : Operand) (t : TypeId) (hop : o.op = Op.call { callee := Callee.builtin Builtin.append, args := #[s, x], argTypes := #[t, t] })
    (sv xv v' : Value) (w' : World) (hs : a.eval s = sv) (hx : a.eval x = xv) (hrun : (Builtin.append_ #[t, t] o.type #[sv, xv]).run P w = .ok v' w') (hK : K (a.put o.dst v') w') :
    if Region.wanted o (yielded ops a.tmps) = true then Oper.wp P o a w K Q else E := by
  have hw : Region.wanted o (yielded ops a.tmps) = true := by simp [Region.wanted, hg]
  rw [if_pos hw]
  unfold Oper.wp
  simp [execOp, hop, resolve, invoke, builtin, hs, hx, hrun, Result.andThen]
  exact hK
theorem grownBy_none {a b : World} {r : Option Nat} (h : a.grownBy b none) : a.grownBy b r := ⟨h.os, h.tape, h.output, h.size, fun i hi _ => h.block i hi (by simp)⟩
/-- the plain due behind a push -/
theorem RS.pushed {w W1 wz : World} {R n c' g' : Nat} {D : Nat → Prop} {v : Value} {L : List Item} (hgq : w.grownBy W1 (some R)) (hRw : R < w.heap.size) (hb : Boxed W1 R 48 v) (hown : IR wz W1.heap.size (.slice (some ⟨g', 0, none⟩) n c') L) (hn : n = L.length)
    (hgr : W1.grownBy wz none) (hD : D R) :
    RS (wz.setCell ⟨R, 0, none⟩ (.slice (some ⟨g', 0, none⟩) n c')) R (fun b => D b ∨ (w.heap.size ≤ b ∧ b < (wz.setCell ⟨R, 0, none⟩ (.slice (some ⟨g', 0, none⟩) n c')).heap.size)) L ∧ w.grownBy (wz.setCell ⟨R, 0, none⟩ (.slice (some ⟨g', 0, none⟩) n c')) (some R) := by
  have hbz : Boxed wz R 48 v := hb.kept hgr (by simp)
  have hgg := hown.lt g' rfl
  have hs1 := hgq.size
  have hsz := (grownBy_setCell' wz R (.slice (some ⟨g', 0, none⟩) n c')).size
  have hcap := hown.cap
  refine ⟨⟨some ⟨g', 0, none⟩, c', ?_, hcap, .inl hD, fun i hi => ⟨g', 0, rfl, by omega, .inr ⟨by omega, by omega⟩, ?_, ?_⟩⟩, grownBy_trans (grownBy_trans hgq (grownBy_none hgr)) (grownBy_setCell' wz R _)⟩
  · rw [← hn]; exact Boxed.set _ hbz
  · rw [World.cell?_setCell_other _ _ _ _ (by simp <;> omega)]
    exact (hown.lie i hi).1
  · rw [World.cell?_setCell_other _ _ _ _ (by simp <;> omega)]
    exact (hown.lie i hi).2
end Go.Proofs.Ytlgmocmekmppeaa

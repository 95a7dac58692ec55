/- DueActs: the two lists beside each other. -/
import Derived.RangeFuncNested
import Derived.RangeFuncBound
import Derived.RangeFuncCalls
import Derived.RangeFuncLeaves
import Derived.Shelf.Abstract
import Derived.Shelf.RegionOpen
import Derived.WalkKit
import Derived.OwnWalkIn
import Derived.TacticsInMore
import Derived.LoopNIn
import Derived.LoopIn
import Derived.Outline
import Derived.Lib.Hide
import Derived.Lib.SliceRun
import Derived.IntWalk
import Derived.WalkLawsBesides
import Derived.WalkSpells
import Derived.Laws.BitsAllLaws
import Derived.Lib.ConvBytes
import Derived.Maps.AppendAt
import Derived.Lib.AppendStr
import Derived.Lib.SlBytesConst
import Derived.Laws.AppendOwnNone
import Derived.Laws.OwnMore
import Derived.Laws.BytesArg
import Derived.Deep.RegionHeld3
import Derived.BigQuiet
import Derived.Deep.RegionLaw
import Derived.Deep.QuietTactic
import Derived.Test.YtlgmocmekmppeaaProg
import Derived.Test.YtlgmocmekmppeaaDuApp
set_option linter.unusedVariables false
set_option linter.unusedSimpArgs false
namespace Go.Proofs.Ytlgmocmekmppeaa
open Go Go.RowKit Go.Shelf

/-- the heap's list and the plain list, beside each other -/
def Both (L M : List Item) : Prop := Heap L.length L ∧ M.Pairwise leP ∧ L.Perm M
theorem Both.nil : Both [] [] := ⟨fun i _ h => absurd h (Nat.not_lt_zero _), .nil, .nil⟩
theorem Both.len {L M : List Item} (h : Both L M) : L.length = M.length := h.2.2.length_eq
theorem Both.push {L M : List Item} (x : Item) (h : Both L M) (i : Nat) (hi : i ≤ M.length) (h1 : ∀ j, j < i → leP (it M j) x) (h2 : i = M.length ∨ leP x (it M i)) :
    Both (upL L.length (L ++ [x]) L.length) (M.take i ++ x :: M.drop i) := by
  obtain ⟨r1, r2⟩ := push_ok x h.1
  have hs := h.2.1
  refine ⟨r1, ?_, ?_⟩
  · have hs' := hs
    rw [← List.take_append_drop i M, List.pairwise_append] at hs'
    obtain ⟨s1, s2, s3⟩ := hs'
    have hle : ∀ y ∈ M.drop i, leP x y := by
      intro y hy
      rcases h2 with h2 | h2
      · rw [h2, List.drop_length] at hy; cases hy
      · have hlt : i < M.length := by
          by_cases e : i < M.length
          · exact e
          · rw [List.drop_of_length_le (by omega)] at hy; cases hy
        rw [List.drop_eq_getElem_cons hlt] at hy s2
        rw [it_lt hlt] at h2
        rcases List.mem_cons.1 hy with rfl | hy
        · exact h2
        · exact h2.trans ((List.pairwise_cons.1 s2).1 y hy)
    have hge : ∀ y ∈ M.take i, leP y x := by
      intro y hy
      obtain ⟨j, hj, rfl⟩ := List.getElem_of_mem hy
      have hj' : j < i ∧ j < M.length := by rw [List.length_take] at hj; omega
      have := h1 j hj'.1
      rw [it_lt hj'.2] at this
      simpa using this
    rw [List.pairwise_append]
    refine ⟨s1, List.pairwise_cons.2 ⟨hle, s2⟩, ?_⟩
    intro y hy z hz
    rcases List.mem_cons.1 hz with rfl | hz
    · exact hge y hy
    · exact s3 y hy z hz
  · refine r2.trans ?_
    refine (List.perm_append_comm (l₁ := L) (l₂ := [x])).trans ?_
    refine (List.Perm.cons x h.2.2).trans ?_
    refine (List.Perm.trans ?_ (List.perm_middle (a := x) (l₁ := M.take i) (l₂ := M.drop i)).symm)
    rw [List.take_append_drop]
/-- what is handed out is the same -/
theorem Both.pop {z : Item} {L M : List Item} (h : Both (z :: L) M) : ∃ ms ys, M = z :: ms ∧ popL (z :: L) = ys ++ [z] ∧ Both ys ms := by
  obtain ⟨h1, h2, h3⟩ := h
  obtain ⟨ys, hp, hH, hperm, hleast⟩ := pop_ok (xs := z :: L) (by simp) h1
  rw [show it (z :: L) 0 = z from rfl] at hp hperm hleast
  cases M with
  | nil => have := h3.length_eq; simp at this
  | cons m ms =>
    have e1 : leP z m := hleast m (h3.mem_iff.2 (by simp))
    have e2 : leP m z := by
      have hz : z ∈ m :: ms := h3.mem_iff.1 (by simp)
      rcases List.mem_cons.1 hz with rfl | hz
      · exact leP.refl _
      · exact (List.pairwise_cons.1 h2).1 z hz
    obtain rfl := leP.anti e1 e2
    refine ⟨ms, ys, rfl, hp, hH, (List.pairwise_cons.1 h2).2, ?_⟩
    have e3 : (z :: ys).Perm (z :: ms) := ((List.perm_append_comm (l₁ := [z]) (l₂ := ys)).trans hperm).trans h3
    exact e3.cons_inv
theorem Both.head {z m : Item} {L M : List Item} (h : Both (z :: L) (m :: M)) : z = m := by
  obtain ⟨ms, ys, e, _, _⟩ := h.pop
  cases e; rfl

/-- the heap's state where the plain due is written, and what is laid anew is protected as well -/
theorem HS.grownR {w w' : World} {base B R : Nat} {D : Nat → Prop} {xs : List Item} (h : HS w base B D xs) (hg : w.grownBy w' (some R)) (hR : D R) : HS w' base B (fun b => D b ∨ (w.heap.size ≤ b ∧ b < w'.heap.size)) xs := by
  obtain ⟨v, hb, hr, hv, hB, hD⟩ := h
  refine ⟨v, hb.kept hg (fun e => by cases e; exact hB hR), World.ownsRow.kept hr hg (.inr (fun e => hv R e hR)), fun r k hd => ?_, fun hd => ?_, fun b hd => ?_⟩
  · rcases hd with hd | hd
    · exact hv r k hd
    · have := (hr.lt r k).2; omega
  · rcases hd with hd | hd
    · exact hB hd
    · have := hb.lt; omega
  · rcases hd with hd | hd
    · have := hD b hd; have := hg.size; omega
    · exact hd.2
theorem RS.nil {w : World} {R : Nat} {D : Nat → Prop} (hb : Boxed w R 48 (.slice none 0 0)) (hD : D R) : RS w R D [] :=
  ⟨none, 0, hb, by simp, hD, fun i hi => absurd hi (Nat.not_lt_zero _)⟩
end Go.Proofs.Ytlgmocmekmppeaa

/- The heap of items: popped from; what is due. -/
import Derived.RangeFuncNested
import Derived.RangeFuncBound
import Derived.RangeFuncCalls
import Derived.RangeFuncLeaves
import Derived.Shelf.Abstract
import Derived.Shelf.RegionOpen
import Derived.WalkKit
import Derived.OwnWalkIn
import Derived.TacticsInMore
import Derived.LoopNIn
import Derived.LoopIn
import Derived.Outline
import Derived.Lib.Hide
import Derived.Lib.SliceRun
import Derived.IntWalk
import Derived.WalkLawsBesides
import Derived.WalkSpells
import Derived.Laws.BitsAllLaws
import Derived.Lib.ConvBytes
import Derived.Maps.AppendAt
import Derived.Lib.AppendStr
import Derived.Lib.SlBytesConst
import Derived.Laws.AppendOwnNone
import Derived.Laws.OwnMore
import Derived.Laws.BytesArg
import Derived.Deep.RegionHeld3
import Derived.BigQuiet
import Derived.Deep.RegionLaw
import Derived.Deep.QuietTactic
import Derived.Test.YtlgmocmekmppeaaProg
import Derived.Test.YtlgmocmekmppeaaDuB
set_option linter.unusedVariables false
set_option linter.unusedSimpArgs false
namespace Go.Proofs.Ytlgmocmekmppeaa
open Go Go.RowKit Go.Shelf

theorem IR.cap {W : World} {base g n c : Nat} {xs : List Item} (h : IR W base (.slice (some ⟨g, 0, none⟩) n c) xs) : xs.length ≤ c ∧ c ≤ 9223372036854775807 := by
  obtain ⟨hl, h⟩ := h
  rcases h with ⟨e, _⟩ | ⟨g', cap, cur, e, hb, hg, hc, hm, hs, ht⟩
  · cases e
  · cases e; exact ⟨hc, by unfold maxLen at hm; omega⟩
theorem IR.init {W : World} {base g c : Nat} {ys : List Item} {x : Item} {n : Nat} (h : IR W base (.slice (some ⟨g, 0, none⟩) n c) (ys ++ [x])) : IR W base (.slice (some ⟨g, 0, none⟩) ys.length c) ys := by
  obtain ⟨hl, h⟩ := h
  rcases h with ⟨e, _⟩ | ⟨g', cap, cur, e, hb, hg, hc, hm, hs, ht⟩
  · cases e
  · cases e
    refine ⟨itC_len ys, .inr ⟨g, c, cur, rfl, hb, hg, by simp at hc; omega, hm, hs, ?_⟩⟩
    have := congrArg (List.take (ys.length * 2)) ht
    rw [List.take_take, itC_append, List.take_append_of_le_length (by rw [itC_len]; omega), List.take_of_length_le (l := itC ys) (by rw [itC_len]; omega)] at this
    rw [← this]
    congr 1
    simp
theorem box_load (g : Nat) (a b : Int) (w : World) : True := trivial

set_option maxRecDepth 100000 in
set_option maxHeartbeats 1000000 in
theorem ipop_any (base B : Nat) (ys : List Item) (x : Item) (w : World) (D : Nat → Prop) (h : HS w base B D (ys ++ [x])) (hmax : ys.length ≤ 100000) (hB : base ≤ B) :
    Calls Try.prog 94 #[.pointer (some ⟨B, 0, none⟩)] w fun e w' => e = .returned (.iface 50 (itV x)) ∧ HS w' base B D ys ∧ KeepOn base D w w' := by
  obtain ⟨v, hbx, hrow, hvD, hBD, hDs⟩ := h
  have HvD := Lib.hid hvD
  have HDs := Lib.hid hDs
  clear hvD hDs
  obtain ⟨g, c, rfl⟩ : ∃ g c, v = .slice (some ⟨g, 0, none⟩) (ys ++ [x]).length c := by
    obtain ⟨g, c, e, _⟩ := World.ownsRow.form hrow (by simp)
    exact ⟨g, c, e⟩
  have hc := hbx.cell
  have hf := hbx.frozen
  obtain ⟨a1, a2, -⟩ := hrow.cells ys.length (by simp)
  have hx1 : itA (ys ++ [x]) ys.length = x.1 := by simp [itA]
  have hx2 : itB (ys ++ [x]) ys.length = x.2 := by simp [itB]
  rw [hx1] at a1
  rw [hx2] at a2
  have hl : (ys ++ [x]).length = ys.length + 1 := by simp
  obtain ⟨hcap, hcap2⟩ := hrow.cap
  rw [hl] at hcap hc
  have hBg := box_row hbx hrow
  have hgb : base ≤ g := (hrow.lt g rfl).1
  have hglt := World.block_lt_of_cell? w _ a1
  have hBlt := hbx.lt
  have Hrow := Lib.hid hrow
  have Hbx := Lib.hid hbx
  have b1 := fun o => Lib.cell?_alloc_marked o a1
  have b2 := fun o => Lib.cell?_alloc_marked o a2
  have b3 := fun o => Lib.cell?_alloc_marked o hc
  clear hrow hbx hx1 hx2 hl
  go_enter Try.func94, Try.ntmps94
  go_wp2
  go_ret
  have hr : IR w base (.slice (some ⟨g, 0, none⟩) ys.length c) ys := IR.init Hrow.out
  have hr2 : IR (w.setCell ⟨B, 0, none⟩ (.slice (some ⟨g, 0, none⟩) ys.length c)) base (.slice (some ⟨g, 0, none⟩) ys.length c) ys := World.ownsRow.kept (row := some B) hr (grownBy_setCell' _ B _) (.inr (fun e => hBg (by simpa [Value.ownBlock] using e.symm)))
  have hkp := (KeepOn.setCell w B (.slice (some ⟨g, 0, none⟩) ys.length c) hB hBD).trans (KeepOn.alloc base D _ (.cells #[.int .i64 x.1, .int .i64 x.2] 50))
  exact ⟨rfl, ⟨_, Boxed.alloc (Boxed.set _ Hbx.out) _, World.ownsRow.alloc hr2 _, HvD.out, hBD, fun b hb => Nat.lt_of_lt_of_le (HDs.out b hb) hkp.size⟩, hkp⟩

/-- what Pop leaves, and what it hands back -/
def popL (xs : List Item) : List Item := (downL (xs.length - 1) (swapL xs 0 (xs.length - 1)) 0 (xs.length - 1))
theorem downL_len : ∀ (f : Nat) (xs : List Item) (i n : Nat), (downL f xs i n).length = xs.length
  | 0, _, _, _ => rfl
  | f + 1, xs, i, n => by
    unfold downL
    split
    · rfl
    · rw [downL_len f, swapL_len]
theorem popL_len (xs : List Item) : (popL xs).length = xs.length := by unfold popL; rw [downL_len, swapL_len]

set_option maxRecDepth 100000 in
set_option maxHeartbeats 1000000 in
/-- **heap.Pop** -/
theorem hpop_any (base B : Nat) (xs ys : List Item) (x : Item) (w : World) (D : Nat → Prop) (h : HS w base B D xs) (h0 : 0 < xs.length) (hmax : xs.length ≤ 100000) (hB : base ≤ B) (hp : popL xs = ys ++ [x]) :
    Calls Try.prog 48 #[hv B] w fun e w' => e = .returned (.iface 50 (itV x)) ∧ HS w' base B D ys ∧ KeepOn base D w w' := by
  have Hp := Lib.hid hp
  have hyl : ys.length + 1 = xs.length := by have := popL_len xs; rw [hp] at this; simpa using this
  clear hp
  have mp := fun w => meth_pop B w
  obtain ⟨v, hbx, hrow, hvD, hBD, hDs⟩ := h
  have HvD := Lib.hid hvD
  have HDs := Lib.hid hDs
  clear hvD hDs
  have hc := hbx.cell
  obtain ⟨g, c, rfl⟩ : ∃ g c, v = .slice (some ⟨g, 0, none⟩) xs.length c := by
    obtain ⟨g, c, e, _⟩ := World.ownsRow.form hrow (by omega)
    exact ⟨g, c, e⟩
  have hBg := box_row hbx hrow
  have hgb : base ≤ g := (hrow.lt g rfl).1
  have m1 := fun (w : World) h => meth_len B (.slice (some ⟨g, 0, none⟩) xs.length c) w h
  have m2 := fun (w : World) h => meth_swap B (.slice (some ⟨g, 0, none⟩) xs.length c) w h
  have Hrow := Lib.hid hrow
  have Hbx := Lib.hid hbx
  have hBlt := hbx.lt
  clear hrow hbx
  have Hyl := Lib.hid hyl
  clear hyl
  go_enter Try.func48, Try.ntmps48
  go_wp2_with fail
  refine (len_any _ _ _ _).mono ?_
  rintro e w2 ⟨rfl, rfl⟩
  go_wp2_with fail
  refine (swap_at base g c _ _ 0 (xs.length - 1) rfl (by omega) xs _ Hrow.out h0 (by omega) (by omega)).mono ?_
  rintro e w2 ⟨rfl, hrow2, hg2⟩
  have hbx2 : Boxed w2 B 78 _ := Boxed.kept Hbx.out hg2 (by simpa using hBg)
  have hB2 := (KeepOn.refl base D w).grown hg2 (fun k e => by cases e; exact ⟨hgb, HvD.out g rfl⟩)
  have hDs2 := Lib.hid (fun b hb => Nat.lt_of_lt_of_le (HDs.out b hb) hg2.size)
  clear m1 m2 hc hg2
  go_wp2_with fail
  refine (down_any base B (xs.length - 1) _ (by omega) (swapL xs 0 (xs.length - 1)) w2 D ⟨_, hbx2, by rw [IR, swapL_len] at *; exact hrow2, HvD.out, hBD, hDs2.out⟩ (by rw [swapL_len]; omega) (by rw [swapL_len]; exact hmax) hB).mono ?_
  rintro e w3 ⟨⟨u, rfl⟩, hs3, hB3⟩
  have hs3' : HS w3 base B D (ys ++ [x]) := by rw [← Hp.out]; exact hs3
  have Hs3 := Lib.hid hs3'
  clear hs3 hs3' hrow2 hbx2
  have hyl : ys.length ≤ 100000 := by have := Hyl.out; omega
  go_wp2_with fail
  refine (ipop_any base B ys x w3 D Hs3.out hyl hB).mono ?_
  rintro e w4 ⟨rfl, hs4, hB4⟩
  go_wp2
  go_ret
  exact ⟨rfl, hs4, (hB2.trans hB3).trans hB4⟩
end Go.Proofs.Ytlgmocmekmppeaa

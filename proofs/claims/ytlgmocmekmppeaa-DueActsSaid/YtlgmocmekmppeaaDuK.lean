/- The plain Due: Pop. -/
import Derived.RangeFuncNested
import Derived.RangeFuncBound
import Derived.RangeFuncCalls
import Derived.RangeFuncLeaves
import Derived.Shelf.Abstract
import Derived.Shelf.RegionOpen
import Derived.WalkKit
import Derived.OwnWalkIn
import Derived.TacticsInMore
import Derived.LoopNIn
import Derived.LoopIn
import Derived.Outline
import Derived.Lib.Hide
import Derived.Lib.SliceRun
import Derived.IntWalk
import Derived.WalkLawsBesides
import Derived.WalkSpells
import Derived.Laws.BitsAllLaws
import Derived.Lib.ConvBytes
import Derived.Maps.AppendAt
import Derived.Lib.AppendStr
import Derived.Lib.SlBytesConst
import Derived.Laws.AppendOwnNone
import Derived.Laws.OwnMore
import Derived.Laws.BytesArg
import Derived.Deep.RegionHeld3
import Derived.BigQuiet
import Derived.Deep.RegionLaw
import Derived.Deep.QuietTactic
import Derived.Test.YtlgmocmekmppeaaProg
import Derived.Test.YtlgmocmekmppeaaDuJ
set_option linter.unusedVariables false
set_option linter.unusedSimpArgs false
namespace Go.Proofs.Ytlgmocmekmppeaa
open Go Go.RowKit Go.Shelf

/-- THE PLAIN DUE AT R HOLDS THESE ITEMS; it lies in blocks that D names. -/
def RS (W : World) (R : Nat) (D : Nat → Prop) (xs : List Item) : Prop := ∃ A c, Boxed W R 48 (.slice A xs.length c) ∧ (xs.length ≤ c ∧ c ≤ 9223372036854775807) ∧ D R ∧
  ∀ i, i < xs.length → ∃ g off, A = some ⟨g, off, none⟩ ∧ g ≠ R ∧ D g ∧ W.cell? ⟨g, off + i * 2, none⟩ = some (.int .i64 (itA xs i)) ∧ W.cell? ⟨g, off + i * 2 + 1, none⟩ = some (.int .i64 (itB xs i))
theorem RS.keep {w w' : World} {n₀ R : Nat} {D : Nat → Prop} {xs : List Item} (h : RS w R D xs) (hk : KeepOn n₀ D w w') : RS w' R D xs := by
  obtain ⟨A, c, hb, hc, hR, hx⟩ := h
  refine ⟨A, c, (hk.block R hb.lt (.inr hR)).trans hb, hc, hR, fun i hi => ?_⟩
  obtain ⟨g, off, e, hg, hD, c0, c1⟩ := hx i hi
  exact ⟨g, off, e, hg, hD, hk.cell (.inr hD) c0, hk.cell (.inr hD) c1⟩
theorem RS.wide {w : World} {R : Nat} {D D' : Nat → Prop} {xs : List Item} (h : RS w R D xs) (hd : ∀ b, D b → D' b) : RS w R D' xs := by
  obtain ⟨A, c, hb, hc, hR, hx⟩ := h
  refine ⟨A, c, hb, hc, hd _ hR, fun i hi => ?_⟩
  obtain ⟨g, off, e, hg, hD, c0, c1⟩ := hx i hi
  exact ⟨g, off, e, hg, hd _ hD, c0, c1⟩

set_option maxRecDepth 100000 in
set_option maxHeartbeats 1000000 in
theorem rpop_none (R : Nat) (n : Int) (w : World) (D : Nat → Prop) (h : RS w R D []) :
    Calls Try.prog 30 #[.pointer (some ⟨R, 0, none⟩), .int .i64 n] w fun e w' => e = .returned ret0 ∧ w.grownBy w' (some R) := by
  obtain ⟨A, c, hb, -, -, -⟩ := h
  have hc := hb.cell
  have hc2 := (hb.alloc (.cells #[.int .i64 0, .int .i64 0] 50)).cell
  clear hb
  go_enter Try.func30, Try.ntmps30
  go_wp2
  refine bodyPost_ret (v := ret0) (by simp [results, Try.results30, go_sem]) rfl ?_
  exact ⟨rfl, World.grownBy_alloc w _ _⟩
set_option maxRecDepth 100000 in
set_option maxHeartbeats 1000000 in
theorem rpop_late (R : Nat) (n : Int) (z : Item) (zs : List Item) (hz : n < z.1) (w : World) (D : Nat → Prop) (h : RS w R D (z :: zs)) :
    Calls Try.prog 30 #[.pointer (some ⟨R, 0, none⟩), .int .i64 n] w fun e w' => e = .returned ret0 ∧ w.grownBy w' (some R) := by
  obtain ⟨A, c, hb, -, -, hx⟩ := h
  obtain ⟨g, off, rfl, hg, -, c0, -⟩ := hx 0 (by simp)
  rw [show itA (z :: zs) 0 = z.1 from rfl, Nat.zero_mul, Nat.add_zero] at c0
  obtain ⟨z1, hz1⟩ : ∃ z1, z.1 = z1 := ⟨_, rfl⟩
  rw [hz1] at hz c0
  have hl : (z :: zs).length = zs.length + 1 := by simp
  rw [hl] at hb
  have hc := hb.cell
  have hc2 := (hb.alloc (.cells #[.int .i64 0, .int .i64 0] 50)).cell
  have c02 := Lib.cell?_alloc_some (.cells #[.int .i64 0, .int .i64 0] 50) c0
  have hn0 : (((zs.length + 1 : Nat) : Int) == 0) = false := by simp; omega
  clear hb hx hl hz1
  go_enter Try.func30, Try.ntmps30
  go_wp2
  refine bodyPost_ret (v := ret0) (by simp [results, Try.results30, go_sem]) rfl ?_
  exact ⟨rfl, World.grownBy_alloc w _ _⟩
theorem RS.tail {w : World} {R : Nat} {D : Nat → Prop} {z : Item} {zs : List Item} {g off c c' : Nat} {A' : Option Addr} (o o' : Obj) (hb : Boxed w R 48 (.slice (some ⟨g, off, none⟩) (zs.length + 1) c)) (h : RS w R D (z :: zs))
    (hA : A' = some ⟨g, off + 2, none⟩ ∨ zs.length = 0) (hc : zs.length ≤ c' ∧ c' ≤ 9223372036854775807) :
    RS (((w.setCell ⟨R, 0, none⟩ (.slice A' zs.length c')).alloc o).alloc o') R D zs ∧ w.grownBy (((w.setCell ⟨R, 0, none⟩ (.slice A' zs.length c')).alloc o).alloc o') (some R) := by
  refine ⟨?_, grownBy_trans (grownBy_trans (grownBy_setCell' w R _) (World.grownBy_alloc _ _ _)) (World.grownBy_alloc _ _ _)⟩
  obtain ⟨A, c2, hb2, -, hR, hx⟩ := h
  have hAe : A = some ⟨g, off, none⟩ := by
    have := hb.symm.trans hb2
    simp at this
    exact this.1.symm
  refine ⟨A', c', ((Boxed.set _ hb).alloc _).alloc _, hc, hR, fun i hi => ?_⟩
  obtain ⟨g2, off2, e, hg, hD, c0, c1⟩ := hx (i + 1) (by simp; omega)
  rw [hAe] at e
  simp at e
  obtain ⟨rfl, rfl⟩ := e
  rcases hA with rfl | hA
  · have sA : itA (z :: zs) (i + 1) = itA zs i := rfl
    have sB : itB (z :: zs) (i + 1) = itB zs i := rfl
    rw [sA] at c0
    rw [sB] at c1
    refine ⟨g, off + 2, rfl, hg, hD, ?_, ?_⟩
    · refine Lib.cell?_alloc_some _ (Lib.cell?_alloc_some _ ?_)
      rw [World.cell?_setCell_other _ _ _ _ (by simp), show off + 2 + i * 2 = off + (i + 1) * 2 by omega]
      exact c0
    · refine Lib.cell?_alloc_some _ (Lib.cell?_alloc_some _ ?_)
      rw [World.cell?_setCell_other _ _ _ _ (by simp), show off + 2 + i * 2 + 1 = off + (i + 1) * 2 + 1 by omega]
      exact c1
  · omega
set_option maxRecDepth 100000 in
set_option maxHeartbeats 1000000 in
theorem rpop_due (R : Nat) (n : Int) (z : Item) (zs : List Item) (hz : z.1 ≤ n) (w : World) (D : Nat → Prop) (h : RS w R D (z :: zs)) (hmax : zs.length ≤ 100000) :
    Calls Try.prog 30 #[.pointer (some ⟨R, 0, none⟩), .int .i64 n] w fun e w' => e = .returned (.tuple #[.agg #[.int .i64 z.1, .int .i64 z.2], .bool true]) ∧ RS w' R D zs ∧ w.grownBy w' (some R) := by
  have H := Lib.hid h
  obtain ⟨A, c, hb, ⟨h1, h2⟩, -, hx⟩ := h
  obtain ⟨g, off, rfl, hg, -, c0, c1⟩ := hx 0 (by simp)
  rw [show itA (z :: zs) 0 = z.1 from rfl, Nat.zero_mul, Nat.add_zero] at c0
  rw [show itB (z :: zs) 0 = z.2 from rfl, Nat.zero_mul, Nat.add_zero] at c1
  obtain ⟨z1, hz1⟩ : ∃ z1, z.1 = z1 := ⟨_, rfl⟩
  obtain ⟨z2, hz2⟩ : ∃ z2, z.2 = z2 := ⟨_, rfl⟩
  rw [hz1] at hz c0 ⊢
  rw [hz2] at c1 ⊢
  have hl : (z :: zs).length = zs.length + 1 := by simp
  rw [hl] at hb h1
  have hc := hb.cell
  have hc2 := (hb.alloc (.cells #[.int .i64 0, .int .i64 0] 50)).cell
  have hfz := hb.frozen
  have c02 := Lib.cell?_alloc_some (.cells #[.int .i64 0, .int .i64 0] 50) c0
  have c12 := Lib.cell?_alloc_some (.cells #[.int .i64 0, .int .i64 0] 50) c1
  have hRlt := hb.lt
  have hglt : g < w.heap.size := World.block_lt_of_cell? w _ c0
  have hn0 : ((zs.length : Int) + 1 == 0) = false := by simp; omega
  have hdz : decide (n < z1) = false := by simp; omega
  have Hb := Lib.hid hb
  have Hx := Lib.hid hx
  clear hb hx hl
  go_enter Try.func30, Try.ntmps30
  go_wp2
  all_goals refine bodyPost_ret (v := .tuple #[.agg #[.int .i64 z1, .int .i64 z2], .bool true]) (by simp [results, Try.results30, go_sem]) rfl ?_
  · exact ⟨rfl, RS.tail _ _ Hb.out H.out (.inr (by omega)) ⟨by omega, by omega⟩⟩
  · exact ⟨rfl, RS.tail _ _ Hb.out H.out (.inl rfl) ⟨by omega, by omega⟩⟩
end Go.Proofs.Ytlgmocmekmppeaa

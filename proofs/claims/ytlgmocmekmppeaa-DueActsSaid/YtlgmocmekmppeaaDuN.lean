/- DueActs: both lists, a call of each. -/
import Derived.RangeFuncNested
import Derived.RangeFuncBound
import Derived.RangeFuncCalls
import Derived.RangeFuncLeaves
import Derived.Shelf.Abstract
import Derived.Shelf.RegionOpen
import Derived.WalkKit
import Derived.OwnWalkIn
import Derived.TacticsInMore
import Derived.LoopNIn
import Derived.LoopIn
import Derived.Outline
import Derived.Lib.Hide
import Derived.Lib.SliceRun
import Derived.IntWalk
import Derived.WalkLawsBesides
import Derived.WalkSpells
import Derived.Laws.BitsAllLaws
import Derived.Lib.ConvBytes
import Derived.Maps.AppendAt
import Derived.Lib.AppendStr
import Derived.Lib.SlBytesConst
import Derived.Laws.AppendOwnNone
import Derived.Laws.OwnMore
import Derived.Laws.BytesArg
import Derived.Deep.RegionHeld3
import Derived.BigQuiet
import Derived.Deep.RegionLaw
import Derived.Deep.QuietTactic
import Derived.Test.YtlgmocmekmppeaaProg
import Derived.Test.YtlgmocmekmppeaaDuM
import Derived.Test.YtlgmocmekmppeaaDuAct
import Derived.Test.YtlgmocmekmppeaaDuL
set_option linter.unusedVariables false
set_option linter.unusedSimpArgs false
namespace Go.Proofs.Ytlgmocmekmppeaa
open Go Go.RowKit Go.Shelf
set_option maxRecDepth 100000 in
set_option maxHeartbeats 1000000 in
theorem rpop_none' (R : Nat) (n : Int) (w : World) (D : Nat → Prop) (h : RS w R D []) :
    Calls Try.prog 30 #[.pointer (some ⟨R, 0, none⟩), .int .i64 n] w fun e w' => e = .returned ret0 ∧ w.grownBy w' none := by
  obtain ⟨A, c, hb, -, -, -⟩ := h
  have hc := hb.cell
  have hc2 := (hb.alloc (.cells #[.int .i64 0, .int .i64 0] 50)).cell
  clear hb
  go_enter Try.func30, Try.ntmps30
  go_wp2
  refine bodyPost_ret (v := ret0) (by simp [results, Try.results30, go_sem]) rfl ?_
  exact ⟨rfl, World.grownBy_alloc w _ _⟩
set_option maxRecDepth 100000 in
set_option maxHeartbeats 1000000 in
theorem rpop_late' (R : Nat) (n : Int) (z : Item) (zs : List Item) (hz : n < z.1) (w : World) (D : Nat → Prop) (h : RS w R D (z :: zs)) :
    Calls Try.prog 30 #[.pointer (some ⟨R, 0, none⟩), .int .i64 n] w fun e w' => e = .returned ret0 ∧ w.grownBy w' none := by
  obtain ⟨A, c, hb, -, -, hx⟩ := h
  obtain ⟨g, off, rfl, hg, -, c0, -⟩ := hx 0 (by simp)
  rw [show itA (z :: zs) 0 = z.1 from rfl, Nat.zero_mul, Nat.add_zero] at c0
  obtain ⟨z1, hz1⟩ : ∃ z1, z.1 = z1 := ⟨_, rfl⟩
  rw [hz1] at hz c0
  have hl : (z :: zs).length = zs.length + 1 := by simp
  rw [hl] at hb
  have hc := hb.cell
  have hc2 := (hb.alloc (.cells #[.int .i64 0, .int .i64 0] 50)).cell
  have c02 := Lib.cell?_alloc_some (.cells #[.int .i64 0, .int .i64 0] 50) c0
  have hn0 : (((zs.length + 1 : Nat) : Int) == 0) = false := by simp; omega
  clear hb hx hl hz1
  go_enter Try.func30, Try.ntmps30
  go_wp2
  refine bodyPost_ret (v := ret0) (by simp [results, Try.results30, go_sem]) rfl ?_
  exact ⟨rfl, World.grownBy_alloc w _ _⟩
abbrev retI (a b : Int) (c : Bool) : Value := .tuple #[.agg #[.int .i64 a, .int .i64 b], .bool c]
theorem RS.none {w w' : World} {R : Nat} {D : Nat → Prop} {xs : List Item} (h : RS w R D xs) (hg : w.grownBy w' none) : RS w' R D xs :=
  h.keep (KeepOn.of_grown (n₀ := 0) hg (fun k e => by cases e))
/-- a Pop of both -/
theorem pop_both (n : Int) (L M : List Item) (h : Both L M) (hlen : L.length ≤ 80) : ∃ a b c L' M', Both L' M' ∧ L'.length ≤ L.length ∧
    (∀ (base B : Nat) (w : World) (D : Nat → Prop), base ≤ B → HS w base B D L → Calls Try.prog 29 #[dp B, .int .i64 n] w fun e w' => e = .returned (retI a b c) ∧ HS w' base B D L' ∧ KeepOn base D w w') ∧
    (∀ (R : Nat) (w : World) (D : Nat → Prop), RS w R D M → Calls Try.prog 30 #[.pointer (some ⟨R, 0, none⟩), .int .i64 n] w fun e w' => e = .returned (retI a b c) ∧ RS w' R D M' ∧ w.grownBy w' (some R)) := by
  cases L with
  | nil =>
    have : M = [] := List.eq_nil_of_length_eq_zero h.len.symm
    subst this
    refine ⟨0, 0, false, [], [], h, Nat.le_refl _, fun base B w D hB hs => dpop_none base B n w D hs, fun R w D hr => (rpop_none' R n w D hr).mono ?_⟩
    rintro e w' ⟨rfl, hg⟩
    exact ⟨rfl, hr.none hg, grownBy_none hg⟩
  | cons z zs =>
    obtain ⟨ms, ys, rfl, hp, hb⟩ := h.pop
    have hml := h.len
    simp only [List.length_cons] at hml hlen
    by_cases hz : n < z.1
    · refine ⟨0, 0, false, z :: zs, z :: ms, h, Nat.le_refl _, fun base B w D hB hs => dpop_late base B n z zs hz (by omega) w D hs, fun R w D hr => (rpop_late' R n z ms hz w D hr).mono ?_⟩
      rintro e w' ⟨rfl, hg⟩
      exact ⟨rfl, hr.none hg, grownBy_none hg⟩
    · refine ⟨z.1, z.2, true, ys, ms, hb, ?_, fun base B w D hB hs => dpop_due base B n z z zs ys (by omega) (by omega) hp hB w D hs, fun R w D hr => rpop_due R n z ms (by omega) w D hr (by omega)⟩
      have := hb.len
      simp only [List.length_cons]; omega
/-- a Push of both -/
theorem push_both (x1 x2 : Int) (L M : List Item) (h : Both L M) (hlen : L.length ≤ 80) : ∃ L', L'.length = L.length + 1 ∧
    (∀ (base B : Nat) (w : World) (D : Nat → Prop), base ≤ B → HS w base B D L → Calls Try.prog 31 #[dp B, .agg #[.int .i64 x1, .int .i64 x2]] w fun e w' => e = .returned (.tuple #[]) ∧ HS w' base B D L' ∧ KeepOn base D w w') ∧
    (∀ (R : Nat) (w : World) (D : Nat → Prop), RS w R D M → Calls Try.prog 32 #[.pointer (some ⟨R, 0, none⟩), .agg #[.int .i64 x1, .int .i64 x2]] w fun e w' => e = .returned (.tuple #[]) ∧ w.grownBy w' (some R) ∧ ∃ M', Both L' M' ∧ RS w' R (fun b => D b ∨ (w.heap.size ≤ b ∧ b < w'.heap.size)) M') := by
  have hml := h.len
  refine ⟨_, ?_, fun base B w D hB hs => dpush_any base B x1 x2 L w D hs (by omega) hB, fun R w D hr => (rpush_any R x1 x2 M w D hr (by omega)).mono ?_⟩
  · have := (push_ok (x1, x2) h.1).2.length_eq
    simpa using this
  · rintro e w' ⟨rfl, hg, i, hi, h1, h2, hrs⟩
    exact ⟨rfl, hg, _, h.push (x1, x2) i hi h1 h2, hrs⟩
end Go.Proofs.Ytlgmocmekmppeaa

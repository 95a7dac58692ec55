/- What is due: New, Push, Len, Next, Pop. -/
import Derived.RangeFuncNested
import Derived.RangeFuncBound
import Derived.RangeFuncCalls
import Derived.RangeFuncLeaves
import Derived.Shelf.Abstract
import Derived.Shelf.RegionOpen
import Derived.WalkKit
import Derived.OwnWalkIn
import Derived.TacticsInMore
import Derived.LoopNIn
import Derived.LoopIn
import Derived.Outline
import Derived.Lib.Hide
import Derived.Lib.SliceRun
import Derived.IntWalk
import Derived.WalkLawsBesides
import Derived.WalkSpells
import Derived.Laws.BitsAllLaws
import Derived.Lib.ConvBytes
import Derived.Maps.AppendAt
import Derived.Lib.AppendStr
import Derived.Lib.SlBytesConst
import Derived.Laws.AppendOwnNone
import Derived.Laws.OwnMore
import Derived.Laws.BytesArg
import Derived.Deep.RegionHeld3
import Derived.BigQuiet
import Derived.Deep.RegionLaw
import Derived.Deep.QuietTactic
import Derived.Test.YtlgmocmekmppeaaProg
import Derived.Test.YtlgmocmekmppeaaDuC
set_option linter.unusedVariables false
set_option linter.unusedSimpArgs false
namespace Go.Proofs.Ytlgmocmekmppeaa
open Go Go.RowKit Go.Shelf

abbrev dp (B : Nat) : Value := .pointer (some ⟨B, 0, none⟩)

theorem HS.alloc {w : World} {base B : Nat} {D : Nat → Prop} {xs : List Item} (h : HS w base B D xs) (o : Obj) : HS (w.alloc o) base B D xs := by
  obtain ⟨v, hb, hr, hv, hB, hD⟩ := h
  exact ⟨v, hb.alloc _, World.ownsRow.alloc hr _, hv, hB, fun b k => Nat.lt_of_lt_of_le (hD b k) (KeepOn.alloc 0 (fun _ => False) w o).size⟩
theorem HS.drew {w : World} {base B : Nat} {D : Nat → Prop} {xs : List Item} (h : HS w base B D xs) : HS w.drew base B D xs := h
theorem HS.lt {w : World} {base B : Nat} {D : Nat → Prop} {xs : List Item} (h : HS w base B D xs) : B < w.heap.size := by
  obtain ⟨v, hb, _⟩ := h; exact Boxed.lt hb

set_option maxRecDepth 100000 in
set_option maxHeartbeats 400000 in
theorem dnew_any (base : Nat) (D : Nat → Prop) (w : World) (hD : ∀ b, D b → b < w.heap.size) : Calls Try.prog 28 #[] w fun e w' => e = .returned (dp w.heap.size) ∧ HS w' base w.heap.size D [] ∧ KeepOn base D w w' := by
  have HD := Lib.hid hD
  clear hD
  go_enter Try.func28, Try.ntmps28
  go_wp2
  go_ret
  have hk := KeepOn.alloc base D w (.cells #[.slice none 0 0] 78)
  exact ⟨rfl, ⟨_, Boxed.new w 78 (.slice none 0 0), World.ownsRow_nil _ _ _ _, fun r hr => by simp [Value.ownBlock] at hr, fun h => Nat.lt_irrefl _ (HD.out _ h), fun b hb => Nat.lt_of_lt_of_le (HD.out b hb) hk.size⟩, hk⟩

set_option maxRecDepth 100000 in
set_option maxHeartbeats 400000 in
theorem dpush_any (base B : Nat) (a b : Int) (xs : List Item) (w : World) (D : Nat → Prop) (h : HS w base B D xs) (hmax : xs.length ≤ 100000) (hB : base ≤ B) :
    Calls Try.prog 31 #[dp B, .agg #[.int .i64 a, .int .i64 b]] w fun e w' => e = .returned (.tuple #[]) ∧ HS w' base B D (upL xs.length (xs ++ [(a, b)]) xs.length) ∧ KeepOn base D w w' := by
  have Hs1 := Lib.hid (h.alloc (.cells #[.int .i64 a, .int .i64 b] 50)).drew
  have hBw := h.lt
  clear h
  go_enter Try.func31, Try.ntmps31
  go_wp2_with fail
  go_region_with (go_at_call 49; refine (hpush_any base B a b xs _ D Hs1.out hmax hB).mono ?_; rintro e w2 ⟨rfl, hs2, hB2⟩)
  all_goals
    go_wp2
    go_end0
    exact ⟨rfl, hs2, ((KeepOn.alloc base D w _).trans (KeepOn.drew _ _ _)).trans hB2⟩

set_option maxRecDepth 100000 in
set_option maxHeartbeats 400000 in
theorem dlen_any (base B : Nat) (xs : List Item) (w : World) (D : Nat → Prop) (h : HS w base B D xs) :
    Calls Try.prog 34 #[dp B] w fun e w' => e = .returned (.int .i64 (xs.length : Int)) ∧ w = w' := by
  obtain ⟨v, hb, hr, -, -, -⟩ := h
  have hc := hb.cell
  obtain ⟨A, c, rfl⟩ : ∃ A c, v = .slice A xs.length c := by
    rcases hr.2 with ⟨rfl, h0⟩ | ⟨g, cap, cur, rfl, _⟩
    · exact ⟨none, 0, by rw [h0]⟩
    · exact ⟨_, _, rfl⟩
  clear hb hr
  go_enter Try.func34, Try.ntmps34
  go_wp2
  go_ret
  exact ⟨rfl, rfl⟩
set_option maxRecDepth 100000 in
set_option maxHeartbeats 400000 in
theorem dlen_nil (w : World) : Calls Try.prog 34 #[.pointer none] w fun e w' => e = .returned (.int .i64 0) ∧ w = w' := by
  go_enter Try.func34, Try.ntmps34
  go_wp2
  go_ret
  exact ⟨rfl, rfl⟩
set_option maxRecDepth 100000 in
set_option maxHeartbeats 400000 in
theorem dnext_none (base B : Nat) (w : World) (D : Nat → Prop) (h : HS w base B D []) :
    Calls Try.prog 33 #[dp B] w fun e w' => e = .returned (.tuple #[.int .i64 0, .bool false]) ∧ w = w' := by
  go_enter Try.func33, Try.ntmps33
  go_wp2_with fail
  refine (dlen_any base B [] w D h).mono ?_
  rintro e w1 ⟨rfl, rfl⟩
  go_wp2
  go_ret2
  exact ⟨rfl, rfl⟩
set_option maxRecDepth 100000 in
set_option maxHeartbeats 400000 in
theorem dnext_nil (w : World) :
    Calls Try.prog 33 #[.pointer none] w fun e w' => e = .returned (.tuple #[.int .i64 0, .bool false]) ∧ w = w' := by
  go_enter Try.func33, Try.ntmps33
  go_wp2_with fail
  refine (dlen_nil w).mono ?_
  rintro e w1 ⟨rfl, rfl⟩
  go_wp2
  go_ret2
  exact ⟨rfl, rfl⟩
set_option maxRecDepth 100000 in
set_option maxHeartbeats 400000 in
theorem dnext_some (base B : Nat) (x : Item) (xs : List Item) (w : World) (hmax : xs.length ≤ 100000) (D : Nat → Prop) (h : HS w base B D (x :: xs)) :
    Calls Try.prog 33 #[dp B] w fun e w' => e = .returned (.tuple #[.int .i64 x.1, .bool true]) ∧ w = w' := by
  have H := Lib.hid h
  obtain ⟨v, hb, hr, -, -, -⟩ := h
  have hc := hb.cell
  obtain ⟨g, c, rfl⟩ : ∃ g c, v = .slice (some ⟨g, 0, none⟩) (x :: xs).length c := by
    obtain ⟨g, c, e, _⟩ := World.ownsRow.form hr (by simp)
    exact ⟨g, c, e⟩
  obtain ⟨a1, -, -⟩ := hr.cells 0 (by simp)
  have hx : itA (x :: xs) 0 = x.1 := rfl
  rw [hx, Nat.zero_mul] at a1
  have hl : (x :: xs).length = xs.length + 1 := by simp
  rw [hl] at hc
  have hn : (((xs.length + 1 : Nat) : Int) == 0) = false := by simp; omega
  have hd := dlen_any base B (x :: xs) w D H.out
  rw [hl] at hd
  have Hd := Lib.hid hd
  clear hb hr hx hl hd
  go_enter Try.func33, Try.ntmps33
  go_wp2_with fail
  refine Hd.out.mono ?_
  rintro e w1 ⟨rfl, rfl⟩
  go_wp2
  go_goals
  go_ret2
  exact ⟨rfl, rfl⟩
end Go.Proofs.Ytlgmocmekmppeaa

/- slices.Clone, and the reference's number of four bytes. -/
import Derived.RangeFuncNested
import Derived.RangeFuncBound
import Derived.RangeFuncCalls
import Derived.RangeFuncLeaves
import Derived.Shelf.Abstract
import Derived.Shelf.RegionOpen
import Derived.WalkKit
import Derived.OwnWalkIn
import Derived.TacticsInMore
import Derived.LoopNIn
import Derived.LoopIn
import Derived.Outline
import Derived.Lib.Hide
import Derived.Lib.SliceRun
import Derived.IntWalk
import Derived.WalkLawsBesides
import Derived.WalkSpells
import Derived.Laws.BitsAllLaws
import Derived.Lib.ConvBytes
import Derived.Maps.AppendAt
import Derived.Lib.AppendStr
import Derived.Lib.SlBytesConst
import Derived.Laws.AppendOwnNone
import Derived.Laws.OwnMore
import Derived.Laws.BytesArg
import Derived.Deep.RegionHeld3
import Derived.BigQuiet
import Derived.Deep.QuietTactic
import Derived.Test.YtlgmocmekmppeaaProg
import Derived.Test.YtlgmocmekmppeaaFrE
set_option linter.unusedVariables false
set_option linter.unusedSimpArgs false
namespace Go.Proofs.Ytlgmocmekmppeaa
open Go Go.RowKit Go.Shelf

theorem below_drewN {B : Nat} {w W : World} (h : Below B w W) (n : Nat) : Below B w (W.drewN n) := ⟨h.os, h.tape, h.output, h.size, h.block⟩

set_option maxRecDepth 100000 in
set_option maxHeartbeats 400000 in
/-- **slices.Clone** -/
theorem clone_any (v : Value) (l : List UInt8) (w : World) (hlen : l.length ≤ 100000000) (h : SB w v l) :
    Calls Try.prog 45 #[v] w fun e w' => ∃ v', e = .returned v' ∧ OB w' w.heap.size v' l ∧ Below w.heap.size w w' := by
  have h' := Lib.hid h
  have hnil := fun (A : Option Addr) (n c : Nat) (w : World) => Lib.run_eql_slice_nil (P := Try.prog) w 22 5 A n c 0 0 Try.underlying22
  rcases h with ⟨rfl, rfl⟩ | ⟨ad, c, rfl, h1, h2, h3⟩
  · go_enter Try.func45, Try.ntmps45
    go_wp2
    go_ret
    exact ⟨_, rfl, World.ownsRow_nil _ _ _ _, Below.refl _ _⟩
  · clear h3
    go_enter Try.func45, Try.ntmps45
    have hB := (Below.refl w.heap.size w).alloc (Nat.le_refl _) (.cells #[] 5)
    have hO : OB (w.alloc (.cells #[] 5)) w.heap.size (.slice (some ⟨w.heap.size, 0, none⟩) 0 0) [] := OB_lit w #[] [] (by simp) rfl
    go_wp2_with (at_builtin; refine wpB_append rfl _ _ rfl w.heap.size _ _ [] l rfl hO rfl (h'.out.below hB) (by simp; omega) hB.size ?_)
    intro v1 w1 hown1 _ hB1
    go_wp2
    go_ret
    exact ⟨_, rfl, by simpa using hown1, hB.trans hB1⟩

theorem or_add {a b n : Nat} (ha : a < 2 ^ n) (h : b * 2 ^ n + a < 4294967296) : bits BinOp.or IntKind.u32 (a : Int) ((b * 2 ^ n : Nat) : Int) = ((b * 2 ^ n + a : Nat) : Int) := by
  rw [u32_or_nat _ _ (by omega) (by omega), Nat.or_comm]
  have := Nat.shiftLeft_add_eq_or_of_lt (i := n) (b := a) ha b
  rw [Nat.shiftLeft_eq] at this
  rw [← this]

set_option maxRecDepth 100000 in
set_option maxHeartbeats 400000 in
/-- **number** -/
theorem number_q (v : Value) (l : List UInt8) (w : World) (h4 : 4 ≤ l.length) (h : SB w v l) :
    Calls Try.prog 46 #[v] w fun e w' => e = .returned (.int .u32 (wordL l : Nat)) ∧ ∃ m, w' = w.drewN m := by
  obtain ⟨A, c, rfl, h1, h2, h3⟩ := h.form
  obtain ⟨g, o, rfl, hc⟩ := h3 (by omega)
  have c0 := hc 0 (by omega)
  have c1 := hc 1 (by omega)
  have c2 := hc 2 (by omega)
  have c3 := hc 3 (by omega)
  rw [Nat.add_zero] at c0
  have g0 := gb_lt l 0
  have g1 := gb_lt l 1
  have g2 := gb_lt l 2
  have g3 := gb_lt l 3
  have p0 : (0 : Int) < (l.length : Int) := by omega
  have p1 : (1 : Int) < (l.length : Int) := by omega
  have p2 : (2 : Int) < (l.length : Int) := by omega
  have p3 : (3 : Int) < (l.length : Int) := by omega
  clear hc h3
  go_enter Try.func46, Try.ntmps46
  go_wp2
  go_quiet (fail)
  go_wp2
  go_ret
  refine ⟨ret_u32 ?_, _, rfl⟩
  have e1 := or_add (a := gb l 0) (b := gb l 1) (n := 8) (by omega) (by omega)
  have e2 := or_add (a := gb l 1 * 2 ^ 8 + gb l 0) (b := gb l 2) (n := 16) (by omega) (by omega)
  have e3 := or_add (a := gb l 2 * 2 ^ 16 + (gb l 1 * 2 ^ 8 + gb l 0)) (b := gb l 3) (n := 24) (by omega) (by omega)
  rw [show ((gb l 1 : Nat) : Int) * 256 = ((gb l 1 * 2 ^ 8 : Nat) : Int) by simp, e1, show ((gb l 2 : Nat) : Int) * 65536 = ((gb l 2 * 2 ^ 16 : Nat) : Int) by simp, e2, show ((gb l 3 : Nat) : Int) * 16777216 = ((gb l 3 * 2 ^ 24 : Nat) : Int) by simp, e3]
  unfold wordL
  omega
theorem number_any (v : Value) (l : List UInt8) (w : World) (h4 : 4 ≤ l.length) (h : SB w v l) :
    Calls Try.prog 46 #[v] w fun e w' => e = .returned (.int .u32 (wordL l : Nat)) ∧ Below w.heap.size w w' :=
  (number_q v l w h4 h).mono fun _ _ ⟨he, m, hm⟩ => ⟨he, by rw [hm]; exact below_drewN (Below.refl _ _) _⟩
theorem quiet_left {P : Program} {f : FuncId} {args : Array Value} {w : World} {n : Nat} {v : Value}
    (h : Calls P f args (w.drewN n) fun e w' => e = .returned v ∧ w.drewN n = w') : Calls P f args (w.drewN n) fun e w'' => e = .returned v ∧ ∃ m, w'' = w.drewN m :=
  h.mono fun _ _ ⟨he, hm⟩ => ⟨he, n, hm.symm⟩
end Go.Proofs.Ytlgmocmekmppeaa

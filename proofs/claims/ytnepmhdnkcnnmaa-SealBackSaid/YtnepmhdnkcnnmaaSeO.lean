/- the reference's number, Parse. -/
import Derived.RangeFuncNested
import Derived.RangeFuncBound
import Derived.RangeFuncCalls
import Derived.RangeFuncLeaves
import Derived.Shelf.Abstract
import Derived.Shelf.RegionOpen
import Derived.WalkKit
import Derived.OwnWalkIn
import Derived.TacticsInMore
import Derived.LoopNIn
import Derived.LoopIn
import Derived.Outline
import Derived.Lib.Hide
import Derived.Lib.SliceRun
import Derived.IntWalk
import Derived.WalkLawsBesides
import Derived.WalkSpells
import Derived.Laws.BitsAllLaws
import Derived.Lib.ConvBytes
import Derived.Maps.AppendAt
import Derived.Lib.AppendStr
import Derived.Lib.SlBytesConst
import Derived.Laws.AppendOwnNone
import Derived.Laws.OwnMore
import Derived.Laws.BytesArg
import Derived.Deep.RegionHeld3
import Derived.BigQuiet
import Derived.Deep.RegionLaw
import Derived.Deep.QuietTactic
import Derived.Lib.OthersKept
import Derived.Test.YtnepmhdnkcnnmaaProg
import Derived.Deep.DeepFit
import Derived.Test.YtnepmhdnkcnnmaaPaA
import Derived.Test.YtnepmhdnkcnnmaaSeN
set_option linter.unusedVariables false
set_option linter.unusedSimpArgs false
namespace Go.Proofs.Ytnepmhdnkcnnmaa
open Go Go.RowKit Go.Shelf

theorem number_bits (b0 b1 b2 b3 x1 x2 x3 : Nat) (g0 : b0 < 256) (g1 : b1 < 256) (g2 : b2 < 256) (g3 : b3 < 256) (h1 : b0 * 16777216 + b1 * 65536 = x1) (h2 : x1 + b2 * 256 = x2) (h3 : x2 + b3 = x3) :
    bits .or .i64 ((b0 : Int) * 16777216) ((b1 : Int) * 65536) = (x1 : Int) ∧ bits .or .i64 (x1 : Int) ((b2 : Int) * 256) = (x2 : Int) ∧ bits .or .i64 (x2 : Int) (b3 : Int) = (x3 : Int) := by
  have p24 : (2 : Nat) ^ 24 = 16777216 := by decide
  have p16 : (2 : Nat) ^ 16 = 65536 := by decide
  have p8 : (2 : Nat) ^ 8 = 256 := by decide
  refine ⟨?_, ?_, ?_⟩
  · have := or_add64 (a := b1 * 65536) (b := b0) (n := 24) (by omega) (by omega)
    rw [p24, h1] at this
    rw [← this]
    congr 1 <;> omega
  · have e : (b0 * 256 + b1) * 65536 = x1 := by rw [Nat.add_mul, Nat.mul_assoc]; exact h1
    have := or_add64 (a := b2 * 256) (b := b0 * 256 + b1) (n := 16) (by rw [p16]; clear p24 p16 p8 e h1 h2 h3; omega) (by rw [p16, e]; clear p24 p16 p8 e; omega)
    rw [p16, e, h2] at this
    rw [← this]
    congr 1
  · have e : (b0 * 65536 + b1 * 256 + b2) * 256 = x2 := by rw [Nat.add_mul, Nat.add_mul, Nat.mul_assoc, Nat.mul_assoc]; rw [← h2, ← h1]
    have := or_add64 (a := b3) (b := b0 * 65536 + b1 * 256 + b2) (n := 8) (by rw [p8]; exact g3) (by rw [p8, e]; clear p24 p16 p8 e; omega)
    rw [p8, e, h3] at this
    exact this
set_option maxHeartbeats 1000000 in
set_option maxRecDepth 100000 in
theorem number_q (v : Value) (l : List UInt8) (w : World) (h4 : 4 ≤ l.length) (h : SB w v l) :
    Calls Try.prog 33 #[v] w fun e w' => e = .returned (.int .i64 (numL l 0 : Nat)) ∧ ∃ m, w' = w.drewN m := by
  obtain ⟨A, c, rfl, h1, h2, h3⟩ := h.form
  obtain ⟨g, o, rfl, hc⟩ := h3 (by omega)
  have c0 := hc 0 (by omega)
  have c1 := hc 1 (by omega)
  have c2 := hc 2 (by omega)
  have c3 := hc 3 (by omega)
  rw [Nat.add_zero] at c0
  have g0 := gb_lt' l 0
  have g1 := gb_lt' l 1
  have g2 := gb_lt' l 2
  have g3 := gb_lt' l 3
  have hn : numL l 0 = gb l 0 * 16777216 + gb l 1 * 65536 + gb l 2 * 256 + gb l 3 := by
    unfold numL
    simp only [nP, Nat.zero_add]
    omega
  obtain ⟨b0, e0⟩ : ∃ b, gb l 0 = b := ⟨_, rfl⟩
  obtain ⟨b1, e1⟩ : ∃ b, gb l 1 = b := ⟨_, rfl⟩
  obtain ⟨b2, e2⟩ : ∃ b, gb l 2 = b := ⟨_, rfl⟩
  obtain ⟨b3, e3⟩ : ∃ b, gb l 3 = b := ⟨_, rfl⟩
  rw [e0] at c0 g0
  rw [e1] at c1 g1
  rw [e2] at c2 g2
  rw [e3] at c3 g3
  rw [e0, e1, e2, e3] at hn
  have p0 : (0 : Int) < (l.length : Int) := by omega
  have p1 : (1 : Int) < (l.length : Int) := by omega
  have p2 : (2 : Int) < (l.length : Int) := by omega
  have p3 : (3 : Int) < (l.length : Int) := by omega
  obtain ⟨x1, hx1⟩ : ∃ x, b0 * 16777216 + b1 * 65536 = x := ⟨_, rfl⟩
  obtain ⟨x2, hx2⟩ : ∃ x, x1 + b2 * 256 = x := ⟨_, rfl⟩
  obtain ⟨x3, hx3⟩ : ∃ x, x2 + b3 = x := ⟨_, rfl⟩
  obtain ⟨o1, o2, o3⟩ := number_bits b0 b1 b2 b3 x1 x2 x3 g0 g1 g2 g3 hx1 hx2 hx3
  have w0 : IntKind.i64.wrap (b0 : Int) = (b0 : Int) := IntWalk.i64_in _ (by omega)
  have w1 : IntKind.i64.wrap (b1 : Int) = (b1 : Int) := IntWalk.i64_in _ (by omega)
  have w2 : IntKind.i64.wrap (b2 : Int) = (b2 : Int) := IntWalk.i64_in _ (by omega)
  have w3 : IntKind.i64.wrap (b3 : Int) = (b3 : Int) := IntWalk.i64_in _ (by omega)
  have w4 : IntKind.i64.wrap ((b0 : Int) * 16777216) = (b0 : Int) * 16777216 := IntWalk.i64_in _ (by omega)
  have w5 : IntKind.i64.wrap ((b1 : Int) * 65536) = (b1 : Int) * 65536 := IntWalk.i64_in _ (by omega)
  have w6 : IntKind.i64.wrap ((b2 : Int) * 256) = (b2 : Int) * 256 := IntWalk.i64_in _ (by omega)
  have en : numL l 0 = x3 := by omega
  rw [en]
  obtain ⟨n, hnl⟩ : ∃ n, l.length = n := ⟨_, rfl⟩
  rw [hnl] at p0 p1 p2 p3 ⊢
  have q0 : 0 < n := by omega
  have q1 : 1 < n := by omega
  have q2 : 2 < n := by omega
  have q3 : 3 < n := by omega
  clear hc h3 h hn e0 e1 e2 e3 en hx1 hx2 hx3 g0 g1 g2 g3 hnl h1 h2 h4
  go_enter Try.func33, Try.ntmps33
  go_wp2
  go_quiet (fail)
  go_wp2
  go_ret
  exact ⟨rfl, _, rfl⟩
theorem number_any (v : Value) (l : List UInt8) (w : World) (h4 : 4 ≤ l.length) (h : SB w v l) :
    Calls Try.prog 33 #[v] w fun e w' => e = .returned (.int .i64 (numL l 0 : Nat)) ∧ Below w.heap.size w w' :=
  (number_q v l w h4 h).mono fun _ _ ⟨he, m, hm⟩ => ⟨he, by rw [hm]; exact below_drewN (Below.refl _ _) _⟩
theorem numL_drop (l : List UInt8) (k : Nat) : numL (l.drop k) 0 = numL l k := by
  unfold numL
  simp only [nP, gb_drop, Nat.zero_add, Nat.add_zero]

/-- a seal's cell of one's own -/
def Box (w : World) (B : Nat) : Prop := ∃ l, Row w B 27 l ∧ l.length = 66
theorem Box.call {w w' : World} {B : Nat} (hb : Below w.heap.size w w') (h : Box w B) : Box w' B := by obtain ⟨l, h1, h2⟩ := h; exact ⟨l, h1.belowS hb, h2⟩
theorem Box.alloc {w : World} {B : Nat} (h : Box w B) (o : Obj) : Box (w.alloc o) B := by obtain ⟨l, h1, h2⟩ := h; exact ⟨l, h1.alloc o, h2⟩
theorem Box.put {w : World} {B : Nat} (h : Box w B) (vs : List Value) (hv : vs.length = 66) : Box (w.setCells B 0 vs) B := by
  obtain ⟨l, h1, h2⟩ := h
  exact ⟨_, Row.setCells_same vs 0 w l h1 (by omega), by simp; omega⟩
theorem Box.row {w : World} {B : Nat} {vs : List Value} (h : Box w B) (hr : w.rangeAt B 0 vs) (hv : vs.length = 66) : Row w B 27 vs := by
  obtain ⟨l, h1, h2⟩ := h
  have e : l = vs := by
    apply List.ext_getElem?
    intro i
    by_cases hi : i < 66
    · have := hr i (vs[i]'(by omega)) (List.getElem?_eq_getElem _)
      rw [Nat.zero_add, h1.cell i] at this
      rw [this, List.getElem?_eq_getElem]
    · rw [List.getElem?_eq_none (by omega), List.getElem?_eq_none (by omega)]
  rw [← e]; exact h1
theorem box_new (w : World) : Box (w.alloc (.cells #[.int .i64 0, .int .i64 0, .int .u8 0, .int .u8 0, .int .u8 0, .int .u8 0, .int .u8 0, .int .u8 0, .int .u8 0, .int .u8 0, .int .u8 0, .int .u8 0, .int .u8 0, .int .u8 0, .int .u8 0, .int .u8 0, .int .u8 0, .int .u8 0, .int .u8 0, .int .u8 0, .int .u8 0, .int .u8 0, .int .u8 0, .int .u8 0, .int .u8 0, .int .u8 0, .int .u8 0, .int .u8 0, .int .u8 0, .int .u8 0, .int .u8 0, .int .u8 0, .int .u8 0, .int .u8 0, .int .u8 0, .int .u8 0, .int .u8 0, .int .u8 0, .int .u8 0, .int .u8 0, .int .u8 0, .int .u8 0, .int .u8 0, .int .u8 0, .int .u8 0, .int .u8 0, .int .u8 0, .int .u8 0, .int .u8 0, .int .u8 0, .int .u8 0, .int .u8 0, .int .u8 0, .int .u8 0, .int .u8 0, .int .u8 0, .int .u8 0, .int .u8 0, .int .u8 0, .int .u8 0, .int .u8 0, .int .u8 0, .int .u8 0, .int .u8 0, .int .u8 0, .int .u8 0] 27)) w.heap.size := ⟨_, Row.new w #[.int .i64 0, .int .i64 0, .int .u8 0, .int .u8 0, .int .u8 0, .int .u8 0, .int .u8 0, .int .u8 0, .int .u8 0, .int .u8 0, .int .u8 0, .int .u8 0, .int .u8 0, .int .u8 0, .int .u8 0, .int .u8 0, .int .u8 0, .int .u8 0, .int .u8 0, .int .u8 0, .int .u8 0, .int .u8 0, .int .u8 0, .int .u8 0, .int .u8 0, .int .u8 0, .int .u8 0, .int .u8 0, .int .u8 0, .int .u8 0, .int .u8 0, .int .u8 0, .int .u8 0, .int .u8 0, .int .u8 0, .int .u8 0, .int .u8 0, .int .u8 0, .int .u8 0, .int .u8 0, .int .u8 0, .int .u8 0, .int .u8 0, .int .u8 0, .int .u8 0, .int .u8 0, .int .u8 0, .int .u8 0, .int .u8 0, .int .u8 0, .int .u8 0, .int .u8 0, .int .u8 0, .int .u8 0, .int .u8 0, .int .u8 0, .int .u8 0, .int .u8 0, .int .u8 0, .int .u8 0, .int .u8 0, .int .u8 0, .int .u8 0, .int .u8 0, .int .u8 0, .int .u8 0] 27, rfl⟩
theorem seal_there (w : World) : (w.alloc (.cells #[.int .i64 0, .int .i64 0, .int .u8 0, .int .u8 0, .int .u8 0, .int .u8 0, .int .u8 0, .int .u8 0, .int .u8 0, .int .u8 0, .int .u8 0, .int .u8 0, .int .u8 0, .int .u8 0, .int .u8 0, .int .u8 0, .int .u8 0, .int .u8 0, .int .u8 0, .int .u8 0, .int .u8 0, .int .u8 0, .int .u8 0, .int .u8 0, .int .u8 0, .int .u8 0, .int .u8 0, .int .u8 0, .int .u8 0, .int .u8 0, .int .u8 0, .int .u8 0, .int .u8 0, .int .u8 0, .int .u8 0, .int .u8 0, .int .u8 0, .int .u8 0, .int .u8 0, .int .u8 0, .int .u8 0, .int .u8 0, .int .u8 0, .int .u8 0, .int .u8 0, .int .u8 0, .int .u8 0, .int .u8 0, .int .u8 0, .int .u8 0, .int .u8 0, .int .u8 0, .int .u8 0, .int .u8 0, .int .u8 0, .int .u8 0, .int .u8 0, .int .u8 0, .int .u8 0, .int .u8 0, .int .u8 0, .int .u8 0, .int .u8 0, .int .u8 0, .int .u8 0, .int .u8 0] 27)).there w.heap.size 0 66 := (Row.new w #[.int .i64 0, .int .i64 0, .int .u8 0, .int .u8 0, .int .u8 0, .int .u8 0, .int .u8 0, .int .u8 0, .int .u8 0, .int .u8 0, .int .u8 0, .int .u8 0, .int .u8 0, .int .u8 0, .int .u8 0, .int .u8 0, .int .u8 0, .int .u8 0, .int .u8 0, .int .u8 0, .int .u8 0, .int .u8 0, .int .u8 0, .int .u8 0, .int .u8 0, .int .u8 0, .int .u8 0, .int .u8 0, .int .u8 0, .int .u8 0, .int .u8 0, .int .u8 0, .int .u8 0, .int .u8 0, .int .u8 0, .int .u8 0, .int .u8 0, .int .u8 0, .int .u8 0, .int .u8 0, .int .u8 0, .int .u8 0, .int .u8 0, .int .u8 0, .int .u8 0, .int .u8 0, .int .u8 0, .int .u8 0, .int .u8 0, .int .u8 0, .int .u8 0, .int .u8 0, .int .u8 0, .int .u8 0, .int .u8 0, .int .u8 0, .int .u8 0, .int .u8 0, .int .u8 0, .int .u8 0, .int .u8 0, .int .u8 0, .int .u8 0, .int .u8 0, .int .u8 0, .int .u8 0] 27).there 66 rfl
set_option maxRecDepth 100000 in
theorem run_build_two (s c : Int) (w : World) : (Instr.build 27 #[(0, .int .i64 s), (1, .int .i64 c)]).run Try.prog w = .ok (.agg (sealC s c (List.replicate 32 0) (List.replicate 32 0)).toArray) w := by kernel_rfl
end Go.Proofs.Ytnepmhdnkcnnmaa

/- Pairs of sums ([2][32]byte): build, parts, ==. -/
import Derived.RangeFuncNested
import Derived.RangeFuncBound
import Derived.RangeFuncCalls
import Derived.RangeFuncLeaves
import Derived.Shelf.Abstract
import Derived.Shelf.RegionOpen
import Derived.WalkKit
import Derived.OwnWalkIn
import Derived.TacticsInMore
import Derived.LoopNIn
import Derived.LoopIn
import Derived.Outline
import Derived.Lib.Hide
import Derived.Lib.SliceRun
import Derived.IntWalk
import Derived.WalkLawsBesides
import Derived.WalkSpells
import Derived.Laws.BitsAllLaws
import Derived.Lib.ConvBytes
import Derived.Maps.AppendAt
import Derived.Lib.AppendStr
import Derived.Lib.SlBytesConst
import Derived.Laws.AppendOwnNone
import Derived.Laws.OwnMore
import Derived.Laws.BytesArg
import Derived.Deep.RegionHeld3
import Derived.BigQuiet
import Derived.Deep.RegionLaw
import Derived.Deep.QuietTactic
import Derived.Lib.OthersKept
import Derived.Test.YtkipnhhdlohnfaaProg
import Derived.Deep.DeepFit
import Derived.Deep.MidRow
import Derived.Test.YtkipnhhdlohnfaaMkD
set_option linter.unusedVariables false
set_option linter.unusedSimpArgs false
namespace Go.Proofs.Ytkipnhhdlohnfaa
open Go Go.RowKit Go.Shelf

set_option maxRecDepth 100000 in
theorem zeroPair (w : World) : (zeroValue 49).run Try.prog w = .ok (.agg #[.int .u8 0, .int .u8 0, .int .u8 0, .int .u8 0, .int .u8 0, .int .u8 0, .int .u8 0, .int .u8 0, .int .u8 0, .int .u8 0, .int .u8 0, .int .u8 0, .int .u8 0, .int .u8 0, .int .u8 0, .int .u8 0, .int .u8 0, .int .u8 0, .int .u8 0, .int .u8 0, .int .u8 0, .int .u8 0, .int .u8 0, .int .u8 0, .int .u8 0, .int .u8 0, .int .u8 0, .int .u8 0, .int .u8 0, .int .u8 0, .int .u8 0, .int .u8 0, .int .u8 0, .int .u8 0, .int .u8 0, .int .u8 0, .int .u8 0, .int .u8 0, .int .u8 0, .int .u8 0, .int .u8 0, .int .u8 0, .int .u8 0, .int .u8 0, .int .u8 0, .int .u8 0, .int .u8 0, .int .u8 0, .int .u8 0, .int .u8 0, .int .u8 0, .int .u8 0, .int .u8 0, .int .u8 0, .int .u8 0, .int .u8 0, .int .u8 0, .int .u8 0, .int .u8 0, .int .u8 0, .int .u8 0, .int .u8 0, .int .u8 0, .int .u8 0]) w := by kernel_rfl
set_option maxRecDepth 100000 in
theorem run_pair_x (x0 x1 x2 x3 x4 x5 x6 x7 x8 x9 x10 x11 x12 x13 x14 x15 x16 x17 x18 x19 x20 x21 x22 x23 x24 x25 x26 x27 x28 x29 x30 x31 y0 y1 y2 y3 y4 y5 y6 y7 y8 y9 y10 y11 y12 y13 y14 y15 y16 y17 y18 y19 y20 y21 y22 y23 y24 y25 y26 y27 y28 y29 y30 y31 : Value) (w : World) :
    (Instr.build 49 #[(0, .agg #[x0, x1, x2, x3, x4, x5, x6, x7, x8, x9, x10, x11, x12, x13, x14, x15, x16, x17, x18, x19, x20, x21, x22, x23, x24, x25, x26, x27, x28, x29, x30, x31]), (1, .agg #[y0, y1, y2, y3, y4, y5, y6, y7, y8, y9, y10, y11, y12, y13, y14, y15, y16, y17, y18, y19, y20, y21, y22, y23, y24, y25, y26, y27, y28, y29, y30, y31])]).run Try.prog w = .ok (.agg #[x0, x1, x2, x3, x4, x5, x6, x7, x8, x9, x10, x11, x12, x13, x14, x15, x16, x17, x18, x19, x20, x21, x22, x23, x24, x25, x26, x27, x28, x29, x30, x31, y0, y1, y2, y3, y4, y5, y6, y7, y8, y9, y10, y11, y12, y13, y14, y15, y16, y17, y18, y19, y20, y21, y22, y23, y24, y25, y26, y27, y28, y29, y30, y31]) w ∧ (Go.part 24 #[x0, x1, x2, x3, x4, x5, x6, x7, x8, x9, x10, x11, x12, x13, x14, x15, x16, x17, x18, x19, x20, x21, x22, x23, x24, x25, x26, x27, x28, x29, x30, x31, y0, y1, y2, y3, y4, y5, y6, y7, y8, y9, y10, y11, y12, y13, y14, y15, y16, y17, y18, y19, y20, y21, y22, y23, y24, y25, y26, y27, y28, y29, y30, y31] 0).run Try.prog w = .ok (.agg #[x0, x1, x2, x3, x4, x5, x6, x7, x8, x9, x10, x11, x12, x13, x14, x15, x16, x17, x18, x19, x20, x21, x22, x23, x24, x25, x26, x27, x28, x29, x30, x31]) w ∧ (Go.part 24 #[x0, x1, x2, x3, x4, x5, x6, x7, x8, x9, x10, x11, x12, x13, x14, x15, x16, x17, x18, x19, x20, x21, x22, x23, x24, x25, x26, x27, x28, x29, x30, x31, y0, y1, y2, y3, y4, y5, y6, y7, y8, y9, y10, y11, y12, y13, y14, y15, y16, y17, y18, y19, y20, y21, y22, y23, y24, y25, y26, y27, y28, y29, y30, y31] 32).run Try.prog w = .ok (.agg #[y0, y1, y2, y3, y4, y5, y6, y7, y8, y9, y10, y11, y12, y13, y14, y15, y16, y17, y18, y19, y20, y21, y22, y23, y24, y25, y26, y27, y28, y29, y30, y31]) w := ⟨by kernel_rfl, by kernel_rfl, by kernel_rfl⟩
set_option maxRecDepth 100000 in
theorem run_pair (a b : List Value) (ha : a.length = 32) (hb : b.length = 32) (w : World) :
    (Instr.build 49 #[(0, .agg a.toArray), (1, .agg b.toArray)]).run Try.prog w = .ok (.agg (a ++ b).toArray) w ∧ (Go.part 24 (a ++ b).toArray 0).run Try.prog w = .ok (.agg a.toArray) w ∧ (Go.part 24 (a ++ b).toArray 32).run Try.prog w = .ok (.agg b.toArray) w := by
  match a, ha with
  | [x0, x1, x2, x3, x4, x5, x6, x7, x8, x9, x10, x11, x12, x13, x14, x15, x16, x17, x18, x19, x20, x21, x22, x23, x24, x25, x26, x27, x28, x29, x30, x31], _ =>
    match b, hb with
    | [y0, y1, y2, y3, y4, y5, y6, y7, y8, y9, y10, y11, y12, y13, y14, y15, y16, y17, y18, y19, y20, y21, y22, y23, y24, y25, y26, y27, y28, y29, y30, y31], _ => exact run_pair_x x0 x1 x2 x3 x4 x5 x6 x7 x8 x9 x10 x11 x12 x13 x14 x15 x16 x17 x18 x19 x20 x21 x22 x23 x24 x25 x26 x27 x28 x29 x30 x31 y0 y1 y2 y3 y4 y5 y6 y7 y8 y9 y10 y11 y12 y13 y14 y15 y16 y17 y18 y19 y20 y21 y22 y23 y24 y25 y26 y27 y28 y29 y30 y31 w
theorem info64 (l : List Value) (h : l.length = 64) : (Try.prog.info? 49).map (·.size) = some l.length := by rw [h]; kernel_rfl
set_option maxRecDepth 100000 in
theorem run_equal_pair (d : Nat) (a b a' b' : List UInt8) (ha : a.length = 32) (hb : b.length = 32) (ha' : a'.length = 32) (hb' : b'.length = 32) (w : World) :
    (Op.equalIn (d + 3) 49 (.agg (enc8 a ++ enc8 b).toArray) (.agg (enc8 a' ++ enc8 b').toArray)).run Try.prog w = .ok (a == a' && b == b') w := by
  have hu : Try.prog.underlying 49 = some (.array 2 24) := Try.underlying49
  have A := fun w => run_pair (enc8 a) (enc8 b) (by rw [enc8_len, ha]) (by rw [enc8_len, hb]) w
  have B := fun w => run_pair (enc8 a') (enc8 b') (by rw [enc8_len, ha']) (by rw [enc8_len, hb']) w
  have E1 := fun w => run_equal_bytes d a a' ha ha' w
  have E2 := fun w => run_equal_bytes d b b' hb hb' w
  rw [Op.equalIn]
  have hsz : ∀ w, (sizeOf 24).run Try.prog w = .ok 32 w := sizeS
  simp only [Sem.run_bind, run_underlying hu, Result.andThen_ok, hsz, Std.Legacy.Range.forIn_eq_forIn_range', Std.Legacy.Range.size, Nat.sub_zero, Nat.add_sub_cancel, Nat.div_one]
  rw [show List.range' 0 2 1 = [0, 1] from rfl]
  simp only [List.forIn_cons, List.forIn_nil, Sem.run_bind, Sem.run_ite, Nat.zero_mul, Nat.one_mul, (A _).2.1, (A _).2.2, (B _).2.1, (B _).2.2, Result.andThen_ok, E1, E2, Sem.run_pure]
  cases h1 : (a == a') <;> cases h2 : (b == b') <;> simp [(A _).2.2, (B _).2.2, E2, h2]
/-- two pairs are compared -/
theorem run_neq_pair (a b a' b' : List UInt8) (ha : a.length = 32) (hb : b.length = 32) (ha' : a'.length = 32) (hb' : b'.length = 32) (w : World) :
    (binOp .neq 49 (.agg (enc8 a ++ enc8 b).toArray) (.agg (enc8 a' ++ enc8 b').toArray)).run Try.prog w = .ok (.bool (!(a == a' && b == b'))) w := by
  rw [run_neq_struct, show (10000 : Nat) = 9997 + 3 from rfl, run_equal_pair 9997 a b a' b' ha hb ha' hb']
  rfl
theorem run_eql_pair (a b a' b' : List UInt8) (ha : a.length = 32) (hb : b.length = 32) (ha' : a'.length = 32) (hb' : b'.length = 32) (w : World) :
    (binOp .eql 49 (.agg (enc8 a ++ enc8 b).toArray) (.agg (enc8 a' ++ enc8 b').toArray)).run Try.prog w = .ok (.bool (a == a' && b == b')) w := by
  rw [run_eql_struct, show (10000 : Nat) = 9997 + 3 from rfl, run_equal_pair 9997 a b a' b' ha hb ha' hb']
  rfl
/-- a whole pair is read, guarded or not -/
theorem Row.pload {w : World} {ops : Array Oper} {rest : List Oper} {o : Oper} {a : Act} {Q : Exit → Act → World → Prop} {g k : Nat} {l : List Value} (hr : w.rangeAt g k l) (hw : Region.wanted o (yielded ops a.tmps) = true) (x : Operand) (ho : o.op = .load 49 x)
    (hx : a.eval x = .pointer (some ⟨g, k, none⟩)) (hi : (Try.prog.info? 49).map (·.size) = some l.length)
    (h : wpList Try.prog ops Q rest (a.put o.dst (.agg l.toArray)) w) : wpList Try.prog ops Q (o :: rest) a w :=
  wpList_wanted hw fun K hK => wp_load_mid 49 x ho g k hx l _ hr Try.underlying49 rfl hi (hK _ _ h)
theorem yields_build_pair {ops : Array Oper} {S : World → Prop} {o : Oper} {a : Act} {r p : List Value} (hw : Region.wanted o (yielded ops a.tmps) = true) (x0 x1 : Operand) (ho : o.op = .build 49 #[(0, x0), (1, x1)])
    (h0 : a.eval x0 = .agg r.toArray) (h1 : a.eval x1 = .agg p.toArray) (hr : r.length = 32) (hp : p.length = 32) :
    YieldsIf Try.prog ops S o (.agg (r ++ p).toArray) a := .inl ⟨hw, fun w _ => by
  unfold execOp
  simp only [ho, List.map_toArray, List.map_cons, List.map_nil, h0, h1, Sem.run_bind, (run_pair r p hr hp w).1, Result.andThen_ok, Sem.run_pure]⟩
theorem filledP (w : World) (z : Array Value) (m : List Value) : ∃ W, (w.alloc (.cells z 49)).setRow w.heap.size m.toArray = W ∧ Row W w.heap.size 49 m ∧ (∀ b t l, Row w b t l → Row W b t l) ∧ Below w.heap.size w W := by
  refine ⟨_, rfl, (Row.new w z 49).setRow m, fun b t l h => ?_, below_setRow ((Below.refl _ w).alloc (Nat.le_refl _) _) (Nat.le_refl _) _⟩
  exact (h.alloc (.cells z 49)).setRow_ne m.toArray (g := w.heap.size) (by have := h.lt; omega)
theorem Row.halves {w : World} {g : Nat} {t : TypeId} {a b : List Value} (h : Row w g t (a ++ b)) (ha : a.length = 32) : w.rangeAt g 0 a ∧ w.rangeAt g 32 b := by
  refine ⟨fun j v hj => ?_, fun j v hj => ?_⟩
  · have hlt : j < a.length := (List.getElem?_eq_some_iff.1 hj).1
    rw [Nat.zero_add, h.cell j, List.getElem?_append_left hlt]; exact hj
  · rw [h.cell (32 + j), List.getElem?_append_right (by omega), ha, show 32 + j - 32 = j by omega]; exact hj
/-- the condition of a region that draws may be made stronger on the way -/
theorem wpAnyH_stronger {P : Program} {md : Region.Mode} {ops : Array Oper} {Q : Exit → Act → World → Prop} {S S' : World → Prop} (hSS : ∀ w, S' w → S w) :
    ∀ (fuel : Nat) (listed : Array Bool) (a : Act) (w : World), wpAnyH P md ops Q S' fuel listed a w → wpAnyH P md ops Q S fuel listed a w
  | 0, _, _, _, h => h
  | fuel + 1, _, _, _, h => ⟨h.1, fun i hi => wpOp_mono (fun a' w' h' => ⟨hSS _ h'.1, wpAnyH_stronger hSS fuel _ a' w' h'.2⟩) (h.2 i hi)⟩
theorem wpAnyH_with {P : Program} {md : Region.Mode} {ops : Array Oper} {Q : Exit → Act → World → Prop} {S : World → Prop} {E : World → Prop} {fuel : Nat} {listed : Array Bool} {a : Act} {w : World} (hE : E w) (hS : S w)
    (h : S w ∧ E w → wpAnyH P md ops Q (fun w => S w ∧ E w) fuel listed a w) : wpAnyH P md ops Q S fuel listed a w :=
  wpAnyH_stronger (fun _ h => h.1) _ _ _ _ (h ⟨hS, hE⟩)
theorem range_halves {w : World} {g : Nat} {a b : List Value} (h : w.rangeAt g 0 (a ++ b)) (ha : a.length = 32) : w.rangeAt g 0 a ∧ w.rangeAt g 32 b := by
  refine ⟨fun j v hj => ?_, fun j v hj => ?_⟩
  · have hlt : j < a.length := (List.getElem?_eq_some_iff.1 hj).1
    exact h j v (by rw [List.getElem?_append_left hlt]; exact hj)
  · have := h (32 + j) v (by rw [List.getElem?_append_right (by omega), ha, show 32 + j - 32 = j by omega]; exact hj)
    rwa [Nat.zero_add] at this
theorem pair_there (w : World) : (w.alloc (.cells #[.int .u8 0, .int .u8 0, .int .u8 0, .int .u8 0, .int .u8 0, .int .u8 0, .int .u8 0, .int .u8 0, .int .u8 0, .int .u8 0, .int .u8 0, .int .u8 0, .int .u8 0, .int .u8 0, .int .u8 0, .int .u8 0, .int .u8 0, .int .u8 0, .int .u8 0, .int .u8 0, .int .u8 0, .int .u8 0, .int .u8 0, .int .u8 0, .int .u8 0, .int .u8 0, .int .u8 0, .int .u8 0, .int .u8 0, .int .u8 0, .int .u8 0, .int .u8 0, .int .u8 0, .int .u8 0, .int .u8 0, .int .u8 0, .int .u8 0, .int .u8 0, .int .u8 0, .int .u8 0, .int .u8 0, .int .u8 0, .int .u8 0, .int .u8 0, .int .u8 0, .int .u8 0, .int .u8 0, .int .u8 0, .int .u8 0, .int .u8 0, .int .u8 0, .int .u8 0, .int .u8 0, .int .u8 0, .int .u8 0, .int .u8 0, .int .u8 0, .int .u8 0, .int .u8 0, .int .u8 0, .int .u8 0, .int .u8 0, .int .u8 0, .int .u8 0] 49)).there w.heap.size 0 64 := (Row.new w _ 49).there 64 rfl
end Go.Proofs.Ytkipnhhdlohnfaa

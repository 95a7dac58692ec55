/- Seals as values; Of, of both. -/
import Derived.RangeFuncNested
import Derived.RangeFuncBound
import Derived.RangeFuncCalls
import Derived.RangeFuncLeaves
import Derived.Shelf.Abstract
import Derived.Shelf.RegionOpen
import Derived.WalkKit
import Derived.OwnWalkIn
import Derived.TacticsInMore
import Derived.LoopNIn
import Derived.LoopIn
import Derived.Outline
import Derived.Lib.Hide
import Derived.Lib.SliceRun
import Derived.IntWalk
import Derived.WalkLawsBesides
import Derived.WalkSpells
import Derived.Laws.BitsAllLaws
import Derived.Lib.ConvBytes
import Derived.Maps.AppendAt
import Derived.Lib.AppendStr
import Derived.Lib.SlBytesConst
import Derived.Laws.AppendOwnNone
import Derived.Laws.OwnMore
import Derived.Laws.BytesArg
import Derived.Deep.RegionHeld3
import Derived.BigQuiet
import Derived.Deep.RegionLaw
import Derived.Deep.QuietTactic
import Derived.Lib.OthersKept
import Derived.Test.YtnepmhdnkcnnmaaProg
import Derived.Deep.DeepFit
import Derived.Great.BuildSlice
import Derived.Deep.MidRow
import Derived.Test.YtnepmhdnkcnnmaaMkD
set_option linter.unusedVariables false
set_option linter.unusedSimpArgs false
namespace Go.Proofs.Ytnepmhdnkcnnmaa
open Go Go.RowKit Go.Shelf

/-- a seal's cells -/
def sealC (s c : Int) (r p : List UInt8) : List Value := .int .i64 s :: .int .i64 c :: (enc8 r ++ enc8 p)
theorem sealC_len (s c : Int) (r p : List UInt8) (hr : r.length = 32) (hp : p.length = 32) : (sealC s c r p).length = 66 := by simp [sealC, enc8_len, hr, hp]
theorem sealC_one (s c : Int) (r p : List UInt8) : ∀ v ∈ sealC s c r p, v.oneCell' = true := by
  intro v hv
  simp only [sealC, List.mem_cons, List.mem_append] at hv
  rcases hv with rfl | rfl | hv | hv
  · rfl
  · rfl
  · exact enc8_one r v hv
  · exact enc8_one p v hv
theorem info66 (l : List Value) (h : l.length = 66) : (Try.prog.info? 27).map (·.size) = some l.length := by rw [h]; kernel_rfl
abbrev Z32n : List UInt8 := List.replicate 32 0
set_option maxRecDepth 100000 in
theorem run_build_seal_x (s c : Int) (x0 x1 x2 x3 x4 x5 x6 x7 x8 x9 x10 x11 x12 x13 x14 x15 x16 x17 x18 x19 x20 x21 x22 x23 x24 x25 x26 x27 x28 x29 x30 x31 y0 y1 y2 y3 y4 y5 y6 y7 y8 y9 y10 y11 y12 y13 y14 y15 y16 y17 y18 y19 y20 y21 y22 y23 y24 y25 y26 y27 y28 y29 y30 y31 : Value) (w : World) :
    (Instr.build 27 #[(0, .int .i64 s), (1, .int .i64 c), (2, .agg #[x0, x1, x2, x3, x4, x5, x6, x7, x8, x9, x10, x11, x12, x13, x14, x15, x16, x17, x18, x19, x20, x21, x22, x23, x24, x25, x26, x27, x28, x29, x30, x31]), (3, .agg #[y0, y1, y2, y3, y4, y5, y6, y7, y8, y9, y10, y11, y12, y13, y14, y15, y16, y17, y18, y19, y20, y21, y22, y23, y24, y25, y26, y27, y28, y29, y30, y31])]).run Try.prog w = .ok (.agg #[.int .i64 s, .int .i64 c, x0, x1, x2, x3, x4, x5, x6, x7, x8, x9, x10, x11, x12, x13, x14, x15, x16, x17, x18, x19, x20, x21, x22, x23, x24, x25, x26, x27, x28, x29, x30, x31, y0, y1, y2, y3, y4, y5, y6, y7, y8, y9, y10, y11, y12, y13, y14, y15, y16, y17, y18, y19, y20, y21, y22, y23, y24, y25, y26, y27, y28, y29, y30, y31]) w := by kernel_rfl
set_option maxRecDepth 100000 in
theorem run_build_seal (s c : Int) (a b : List Value) (ha : a.length = 32) (hb : b.length = 32) (w : World) :
    (Instr.build 27 #[(0, .int .i64 s), (1, .int .i64 c), (2, .agg a.toArray), (3, .agg b.toArray)]).run Try.prog w = .ok (.agg (.int .i64 s :: .int .i64 c :: (a ++ b)).toArray) w := by
  match a, ha with
  | [x0, x1, x2, x3, x4, x5, x6, x7, x8, x9, x10, x11, x12, x13, x14, x15, x16, x17, x18, x19, x20, x21, x22, x23, x24, x25, x26, x27, x28, x29, x30, x31], _ =>
    match b, hb with
    | [y0, y1, y2, y3, y4, y5, y6, y7, y8, y9, y10, y11, y12, y13, y14, y15, y16, y17, y18, y19, y20, y21, y22, y23, y24, y25, y26, y27, y28, y29, y30, y31], _ => exact run_build_seal_x s c x0 x1 x2 x3 x4 x5 x6 x7 x8 x9 x10 x11 x12 x13 x14 x15 x16 x17 x18 x19 x20 x21 x22 x23 x24 x25 x26 x27 x28 x29 x30 x31 y0 y1 y2 y3 y4 y5 y6 y7 y8 y9 y10 y11 y12 y13 y14 y15 y16 y17 y18 y19 y20 y21 y22 y23 y24 y25 y26 y27 y28 y29 y30 y31 w
set_option maxRecDepth 100000 in
theorem run_part_x (s c : Value) (x0 x1 x2 x3 x4 x5 x6 x7 x8 x9 x10 x11 x12 x13 x14 x15 x16 x17 x18 x19 x20 x21 x22 x23 x24 x25 x26 x27 x28 x29 x30 x31 y0 y1 y2 y3 y4 y5 y6 y7 y8 y9 y10 y11 y12 y13 y14 y15 y16 y17 y18 y19 y20 y21 y22 y23 y24 y25 y26 y27 y28 y29 y30 y31 : Value) (w : World) :
    (Go.part 23 #[s, c, x0, x1, x2, x3, x4, x5, x6, x7, x8, x9, x10, x11, x12, x13, x14, x15, x16, x17, x18, x19, x20, x21, x22, x23, x24, x25, x26, x27, x28, x29, x30, x31, y0, y1, y2, y3, y4, y5, y6, y7, y8, y9, y10, y11, y12, y13, y14, y15, y16, y17, y18, y19, y20, y21, y22, y23, y24, y25, y26, y27, y28, y29, y30, y31] 2).run Try.prog w = .ok (.agg #[x0, x1, x2, x3, x4, x5, x6, x7, x8, x9, x10, x11, x12, x13, x14, x15, x16, x17, x18, x19, x20, x21, x22, x23, x24, x25, x26, x27, x28, x29, x30, x31]) w ∧ (Go.part 23 #[s, c, x0, x1, x2, x3, x4, x5, x6, x7, x8, x9, x10, x11, x12, x13, x14, x15, x16, x17, x18, x19, x20, x21, x22, x23, x24, x25, x26, x27, x28, x29, x30, x31, y0, y1, y2, y3, y4, y5, y6, y7, y8, y9, y10, y11, y12, y13, y14, y15, y16, y17, y18, y19, y20, y21, y22, y23, y24, y25, y26, y27, y28, y29, y30, y31] 34).run Try.prog w = .ok (.agg #[y0, y1, y2, y3, y4, y5, y6, y7, y8, y9, y10, y11, y12, y13, y14, y15, y16, y17, y18, y19, y20, y21, y22, y23, y24, y25, y26, y27, y28, y29, y30, y31]) w ∧
    (Go.part 3 #[s, c, x0, x1, x2, x3, x4, x5, x6, x7, x8, x9, x10, x11, x12, x13, x14, x15, x16, x17, x18, x19, x20, x21, x22, x23, x24, x25, x26, x27, x28, x29, x30, x31, y0, y1, y2, y3, y4, y5, y6, y7, y8, y9, y10, y11, y12, y13, y14, y15, y16, y17, y18, y19, y20, y21, y22, y23, y24, y25, y26, y27, y28, y29, y30, y31] 0).run Try.prog w = .ok s w ∧ (Go.part 3 #[s, c, x0, x1, x2, x3, x4, x5, x6, x7, x8, x9, x10, x11, x12, x13, x14, x15, x16, x17, x18, x19, x20, x21, x22, x23, x24, x25, x26, x27, x28, x29, x30, x31, y0, y1, y2, y3, y4, y5, y6, y7, y8, y9, y10, y11, y12, y13, y14, y15, y16, y17, y18, y19, y20, y21, y22, y23, y24, y25, y26, y27, y28, y29, y30, y31] 1).run Try.prog w = .ok c w := ⟨by kernel_rfl, by kernel_rfl, by kernel_rfl, by kernel_rfl⟩
set_option maxRecDepth 100000 in
theorem run_part_seal (s c : Value) (a b : List Value) (ha : a.length = 32) (hb : b.length = 32) (w : World) :
    (Go.part 23 (s :: c :: (a ++ b)).toArray 2).run Try.prog w = .ok (.agg a.toArray) w ∧ (Go.part 23 (s :: c :: (a ++ b)).toArray 34).run Try.prog w = .ok (.agg b.toArray) w ∧
    (Go.part 3 (s :: c :: (a ++ b)).toArray 0).run Try.prog w = .ok s w ∧ (Go.part 3 (s :: c :: (a ++ b)).toArray 1).run Try.prog w = .ok c w := by
  match a, ha with
  | [x0, x1, x2, x3, x4, x5, x6, x7, x8, x9, x10, x11, x12, x13, x14, x15, x16, x17, x18, x19, x20, x21, x22, x23, x24, x25, x26, x27, x28, x29, x30, x31], _ =>
    match b, hb with
    | [y0, y1, y2, y3, y4, y5, y6, y7, y8, y9, y10, y11, y12, y13, y14, y15, y16, y17, y18, y19, y20, y21, y22, y23, y24, y25, y26, y27, y28, y29, y30, y31], _ => exact run_part_x s c x0 x1 x2 x3 x4 x5 x6 x7 x8 x9 x10 x11 x12 x13 x14 x15 x16 x17 x18 x19 x20 x21 x22 x23 x24 x25 x26 x27 x28 x29 x30 x31 y0 y1 y2 y3 y4 y5 y6 y7 y8 y9 y10 y11 y12 y13 y14 y15 y16 y17 y18 y19 y20 y21 y22 y23 y24 y25 y26 y27 y28 y29 y30 y31 w
/-- two seals are compared -/
theorem run_eql_seal (s c s' c' : Int) (r p r' p' : List UInt8) (hr : r.length = 32) (hp : p.length = 32) (hr' : r'.length = 32) (hp' : p'.length = 32) (w : World) :
    (binOp .eql 27 (.agg (sealC s c r p).toArray) (.agg (sealC s' c' r' p').toArray)).run Try.prog w = .ok (.bool (s == s' && (c == c' && (r == r' && p == p')))) w := by
  have hu : Try.prog.underlying 27 = some (.struct (Try.prog.fieldsOf 27)) := by kernel_rfl
  have h1 : Try.prog.underlying 3 = some (.int .i64) := Try.underlying3
  have A := fun w => run_part_seal (.int .i64 s) (.int .i64 c) (enc8 r) (enc8 p) (by rw [enc8_len, hr]) (by rw [enc8_len, hp]) w
  have B := fun w => run_part_seal (.int .i64 s') (.int .i64 c') (enc8 r') (enc8 p') (by rw [enc8_len, hr']) (by rw [enc8_len, hp']) w
  have E1 : ∀ (a b : Int) (w : World), (Op.equalIn 9999 3 (.int .i64 a) (.int .i64 b)).run Try.prog w = .ok (a == b) w := fun a b w => run_equalIn_int (P := Try.prog) w 9998 3 .i64 .i64 a b h1
  have E2 : ∀ (w : World), (Op.equalIn 9999 23 (.agg (enc8 r).toArray) (.agg (enc8 r').toArray)).run Try.prog w = .ok (r == r') w := fun w => run_equal_bytes 9997 r r' hr hr' w
  have E3 : ∀ (w : World), (Op.equalIn 9999 23 (.agg (enc8 p).toArray) (.agg (enc8 p').toArray)).run Try.prog w = .ok (p == p') w := fun w => run_equal_bytes 9997 p p' hp hp' w
  have n1 : ("Seg" : String) ≠ "_" := by decide
  have n2 : ("Count" : String) ≠ "_" := by decide
  have n3 : ("Root" : String) ≠ "_" := by decide
  have n4 : ("Prev" : String) ≠ "_" := by decide
  rw [run_eql_struct, show (10000 : Nat) = 9999 + 1 from rfl, run_equalIn_struct w 9999 27 _ _ hu (by kernel_rfl)]
  rw [show (Try.prog.fieldsOf 27).toList = [{ name := "Seg", type := 3, offset := 0, embedded := false, tag := "", pkgPath := "", byteOffset := 0 }, { name := "Count", type := 3, offset := 1, embedded := false, tag := "", pkgPath := "", byteOffset := 8 }, { name := "Root", type := 23, offset := 2, embedded := false, tag := "", pkgPath := "", byteOffset := 16 }, { name := "Prev", type := 23, offset := 34, embedded := false, tag := "", pkgPath := "", byteOffset := 48 }] by rfl]
  unfold sealC
  simp only [Op.eqFields, n1, n2, n3, n4, if_true, Sem.run_bind, Sem.run_ite, (A _).1, (A _).2.1, (A _).2.2.1, (A _).2.2.2, (B _).1, (B _).2.1, (B _).2.2.1, (B _).2.2.2, Result.andThen_ok, E1, E2, E3, Sem.run_pure]
  cases (s == s') <;> cases (c == c') <;> cases (r == r') <;> cases (p == p') <;> simp
end Go.Proofs.Ytnepmhdnkcnnmaa

/- The reference's both: where nothing is split any more, and where a sum lacks. -/
import Derived.RangeFuncNested
import Derived.RangeFuncBound
import Derived.RangeFuncCalls
import Derived.RangeFuncLeaves
import Derived.Shelf.Abstract
import Derived.Shelf.RegionOpen
import Derived.WalkKit
import Derived.OwnWalkIn
import Derived.TacticsInMore
import Derived.LoopNIn
import Derived.LoopIn
import Derived.Outline
import Derived.Lib.Hide
import Derived.Lib.SliceRun
import Derived.IntWalk
import Derived.WalkLawsBesides
import Derived.WalkSpells
import Derived.Laws.BitsAllLaws
import Derived.Lib.ConvBytes
import Derived.Maps.AppendAt
import Derived.Lib.AppendStr
import Derived.Lib.SlBytesConst
import Derived.Laws.AppendOwnNone
import Derived.Laws.OwnMore
import Derived.Laws.BytesArg
import Derived.Deep.RegionHeld3
import Derived.BigQuiet
import Derived.Deep.RegionLaw
import Derived.Deep.QuietTactic
import Derived.Lib.OthersKept
import Derived.Test.YtkipnhhdlohnfaaProg
import Derived.Deep.DeepFit
import Derived.Test.YtkipnhhdlohnfaaPaA
import Derived.Test.YtkipnhhdlohnfaaMkW
set_option linter.unusedVariables false
set_option linter.unusedSimpArgs false
namespace Go.Proofs.Ytkipnhhdlohnfaa
open Go Go.RowKit Go.Shelf

/-- what stands behind a region that many orders lead to: walked once -/
theorem by_key {B : Prop} (Q : Nat → Nat → List UInt8 → List UInt8 → World → Prop) {F : Nat → Nat → List UInt8 → List UInt8 → World → Prop} (main : (∀ a b x y w, F a b x y w → Q a b x y w) → B) (key : ∀ a b x y w, F a b x y w → Q a b x y w) : B := main key
theorem there_size {w : World} {b o n : Nat} (h : w.there b o (n + 1)) : b < w.heap.size := by
  obtain ⟨u, hu⟩ := Option.isSome_iff_exists.1 (h 0 (by omega)).1
  exact World.block_lt_of_cell? _ _ hu
theorem new_there1 (w : World) (o : Obj) : ((w.alloc o).alloc (.cells #[.int .u8 0, .int .u8 0, .int .u8 0, .int .u8 0, .int .u8 0, .int .u8 0, .int .u8 0, .int .u8 0, .int .u8 0, .int .u8 0, .int .u8 0, .int .u8 0, .int .u8 0, .int .u8 0, .int .u8 0, .int .u8 0, .int .u8 0, .int .u8 0, .int .u8 0, .int .u8 0, .int .u8 0, .int .u8 0, .int .u8 0, .int .u8 0, .int .u8 0, .int .u8 0, .int .u8 0, .int .u8 0, .int .u8 0, .int .u8 0, .int .u8 0, .int .u8 0] 24)).there (w.heap.size + 1) 0 32 := by rw [← alloc_size w o]; exact new_there _
theorem range_result3 {w : World} {fn : Func} {p q r : Tmp} {ty : TypeId} {g g2 : Nat} {l l2 : List Value} {v : Value} (hr : w.rangeAt g 0 l) (hr2 : w.rangeAt g2 0 l2) (h : fn.results = #[.cell p ty, .cell q ty, .tmp r]) (tmps : Array Value) (n : Nat) (e : TypeId)
    (hp : tmps.getD p undef = .pointer (some ⟨g, 0, none⟩)) (hp2 : tmps.getD q undef = .pointer (some ⟨g2, 0, none⟩)) (hq : tmps.getD r undef = v) (hu : Try.prog.underlying ty = some (.array n e)) (hi : (Try.prog.info? ty).map (·.size) = some l.length) (hi2 : (Try.prog.info? ty).map (·.size) = some l2.length) :
    (results fn tmps).run Try.prog w = .ok (.tuple #[.agg l.toArray, .agg l2.toArray, v]) w := by
  have hp' : tmps[p]?.getD undef = .pointer (some ⟨g, 0, none⟩) := by simpa using hp
  have hp2' : tmps[q]?.getD undef = .pointer (some ⟨g2, 0, none⟩) := by simpa using hp2
  have hq' : tmps[r]?.getD undef = v := by simpa using hq
  simp [results, h, hp', hp2', hq', asAddr, run_loadVar_mid w g 0 ty l _ hr hu rfl hi, run_loadVar_mid w g2 0 ty l2 _ hr2 hu rfl hi2, Sem.run_bind, Result.andThen]
/-- a box and two results' cells -/
theorem box_three (w : World) (a : List Value) : ∃ W A, ((w.alloc (.cells a.toArray 24)).alloc (.cells #[.int .u8 0, .int .u8 0, .int .u8 0, .int .u8 0, .int .u8 0, .int .u8 0, .int .u8 0, .int .u8 0, .int .u8 0, .int .u8 0, .int .u8 0, .int .u8 0, .int .u8 0, .int .u8 0, .int .u8 0, .int .u8 0, .int .u8 0, .int .u8 0, .int .u8 0, .int .u8 0, .int .u8 0, .int .u8 0, .int .u8 0, .int .u8 0, .int .u8 0, .int .u8 0, .int .u8 0, .int .u8 0, .int .u8 0, .int .u8 0, .int .u8 0, .int .u8 0] 24)).alloc (.cells #[.int .u8 0, .int .u8 0, .int .u8 0, .int .u8 0, .int .u8 0, .int .u8 0, .int .u8 0, .int .u8 0, .int .u8 0, .int .u8 0, .int .u8 0, .int .u8 0, .int .u8 0, .int .u8 0, .int .u8 0, .int .u8 0, .int .u8 0, .int .u8 0, .int .u8 0, .int .u8 0, .int .u8 0, .int .u8 0, .int .u8 0, .int .u8 0, .int .u8 0, .int .u8 0, .int .u8 0, .int .u8 0, .int .u8 0, .int .u8 0, .int .u8 0, .int .u8 0] 24) = W ∧ w.heap.size = A ∧ W.heap.size = A + 3 ∧ Row W A 24 a ∧ W.there (A + 1) 0 32 ∧ W.there (A + 1 + 1) 0 32 ∧ Mine A w W := by
  obtain ⟨W, A, hW, hA, hs, r0, r1, hm⟩ := two_boxed w a Z32
  have hZ : (Z32).toArray = #[.int .u8 0, .int .u8 0, .int .u8 0, .int .u8 0, .int .u8 0, .int .u8 0, .int .u8 0, .int .u8 0, .int .u8 0, .int .u8 0, .int .u8 0, .int .u8 0, .int .u8 0, .int .u8 0, .int .u8 0, .int .u8 0, .int .u8 0, .int .u8 0, .int .u8 0, .int .u8 0, .int .u8 0, .int .u8 0, .int .u8 0, .int .u8 0, .int .u8 0, .int .u8 0, .int .u8 0, .int .u8 0, .int .u8 0, .int .u8 0, .int .u8 0, .int .u8 0] := rfl
  rw [hZ] at hW
  rw [hW]
  have hs3 : (W.alloc (.cells #[.int .u8 0, .int .u8 0, .int .u8 0, .int .u8 0, .int .u8 0, .int .u8 0, .int .u8 0, .int .u8 0, .int .u8 0, .int .u8 0, .int .u8 0, .int .u8 0, .int .u8 0, .int .u8 0, .int .u8 0, .int .u8 0, .int .u8 0, .int .u8 0, .int .u8 0, .int .u8 0, .int .u8 0, .int .u8 0, .int .u8 0, .int .u8 0, .int .u8 0, .int .u8 0, .int .u8 0, .int .u8 0, .int .u8 0, .int .u8 0, .int .u8 0, .int .u8 0] 24)).heap.size = A + 3 := by show (W.heap.push _).size = _; rw [Array.size_push, hs]
  refine ⟨_, A, rfl, hA, hs3, r0.alloc _, World.there_alloc (r1.there 32 rfl) _, ?_, hm.alloc _⟩
  rw [← hs]
  exact new_there W
/-- what both says -/
def BothSays (n m : Nat) (wh : Bool) (old : List UInt8) (ps : List (List UInt8)) (w : World) (e : Ending) (w' : World) : Prop :=
  ∃ x y, e = .returned (.tuple #[.agg (enc8 x).toArray, .agg (enc8 y).toArray, .bool (bOk n m wh ps)]) ∧ x.length = 32 ∧ y.length = 32 ∧ (bOk n m wh ps = true → (x, y) = bTwo n m wh old ps) ∧ Below w.heap.size w w'
set_option maxHeartbeats 2000000 in
set_option maxRecDepth 100000 in
theorem both_whole (n : Nat) (old : List UInt8) (pv : Value) (ps : List (List UInt8)) (w : World) (hl : old.length = 32) (hv : HS w pv ps) :
    Calls Try.prog 57 #[.int .i64 (n : Int), .int .i64 (n : Int), .bool true, .agg (enc8 old).toArray, pv] w (BothSays n n true old ps w) := by
  obtain ⟨C, c, rfl, hc, -⟩ := hv.form
  obtain ⟨W, A, hW, hA, hsz, r0, r1, r2, hm⟩ := box_three w (enc8 old)
  have hy : bOk n n true ps = true → (old, old) = bTwo n n true old ps := fun h => (bTwo_whole n old ps h).symm
  unfold BothSays
  rw [bOk_whole] at hy ⊢
  obtain ⟨L, hL⟩ : ∃ L, ps.length = L := ⟨_, rfl⟩
  rw [hL] at hy ⊢
  have HY := Lib.hid hy
  have i0 := info32 old hl
  obtain ⟨al, hal⟩ : ∃ al, enc8 old = al := ⟨_, rfl⟩
  have l1 : al.length = 32 := by rw [← hal, enc8_len, hl]
  have f1 := enc8_one old
  rw [hal] at hW r0 i0 f1 ⊢
  have HAL := Lib.hid hal
  have HLF := Lib.hid hl
  have HW := Lib.hid hW
  have R0 := Lib.hid r0
  have TH := Lib.hid (And.intro r1 r2)
  have HM := Lib.hid hm
  have q0 : ((L : Int) == 0) = decide (L = 0) := by by_cases h : L = 0 <;> simp [h]
  have q1 : ((n : Int) == n) = true := by simp
  clear hv hW r0 r1 r2 hm hy hL hal hl hc
  have hu := Try.underlying24
  go_enter Try.func57, Try.ntmps57
  go_wp2_with fail
  rw [HW.out]
  go_wp2_with fail
  refine wp_region_noPanic ?_
  refine wp_region_held_drew (S := (fun w' => (Mine A w w' ∧ w'.there (A + 1) 0 32 ∧ w'.there (A + 1 + 1) 0 32) ∧ w'.rangeAt A 0 al)) (by kernel_rfl) ?_ (fun hHeld => ?_)
  · exact ⟨⟨⟨HM.out.le, HM.out.bel.drew⟩, (World.there_drew _ _ _ _).2 TH.out.1, (World.there_drew _ _ _ _).2 TH.out.2⟩, (World.rangeAt_drew _ _ _ _).2 R0.out.range⟩
  refine wpAnyH_take (i := 2) (oi := { dst := some 27, op := Op.move (Operand.tmp 4), type := 29, pos := "ref.go:115", after := #[], guard := none }) (v := ?v2_0) rfl (by kernel_rfl) (by kernel_rfl) (by kernel_rfl) (fun _ _ _ h => h) (Or.inl ⟨by rfl, ?y2_0⟩) (by assumption) ?r2_0
  case y2_0 => intro w hSw; (try dsimp only at hSw); go_simp; try with_reducible rfl
  try simp only [Act.put, List.setIfInBounds_toArray, List.set_cons_zero, List.set_cons_succ]
  refine wpAnyH_take (i := 3) (oi := { dst := some 28, op := Op.call { callee := Callee.builtin Builtin.len, args := #[Operand.tmp 27], argTypes := #[29] }, type := 3, pos := "ref.go:115", after := #[{ on := 2, ground := Ground.data }], guard := none }) (v := ?v3_1) rfl (by kernel_rfl) (by kernel_rfl) (by kernel_rfl) (fun _ _ _ h => h) (Or.inl ⟨by rfl, ?y3_1⟩) (by assumption) ?r3_1
  case y3_1 => intro w hSw; (try dsimp only at hSw); go_simp; try with_reducible rfl
  try simp only [Act.put, List.setIfInBounds_toArray, List.set_cons_zero, List.set_cons_succ]
  refine wpAnyH_take (i := 4) (oi := { dst := some 29, op := Op.binOp BinOp.eql 3 (Operand.tmp 28) (Operand.const (Value.int IntKind.i64 0)) 3, type := 4, pos := "ref.go:115", after := #[{ on := 3, ground := Ground.data }, { on := 6, ground := Ground.gcOnly Departure.lateStores }], guard := none }) (v := ?v4_2) rfl (by kernel_rfl) (by kernel_rfl) (by kernel_rfl) (fun _ _ _ h => h) (Or.inl ⟨by rfl, ?y4_2⟩) (by assumption) ?r4_2
  case y4_2 => intro w hSw; (try dsimp only at hSw); go_simp; try with_reducible rfl
  try simp only [Act.put, List.setIfInBounds_toArray, List.set_cons_zero, List.set_cons_succ]
  refine wpAnyH_take (i := 0) (oi := { dst := some 25, op := Op.load 24 (Operand.tmp 8), type := 24, pos := "ref.go:115", after := #[], guard := none }) (v := _) rfl (by kernel_rfl) (by kernel_rfl) (by kernel_rfl) (fun _ _ _ h => h) (yieldsIf_load_mid (by rfl) _ _ rfl _ _ rfl _ _ (by intro w hSw; (try dsimp only at hSw); go_split_ands; assumption) (by assumption) rfl (by first | assumption | (simp only [*]; done))) (by assumption) ?_
  try simp only [Act.put, List.setIfInBounds_toArray, List.set_cons_zero, List.set_cons_succ]
  refine wpAnyH_take (i := 1) (oi := { dst := some 26, op := Op.load 24 (Operand.tmp 8), type := 24, pos := "ref.go:115", after := #[{ on := 5, ground := Ground.gcOnly Departure.lateStores }], guard := none }) (v := _) rfl (by kernel_rfl) (by kernel_rfl) (by kernel_rfl) (fun _ _ _ h => h) (yieldsIf_load_mid (by rfl) _ _ rfl _ _ rfl _ _ (by intro w hSw; (try dsimp only at hSw); go_split_ands; assumption) (by assumption) rfl (by first | assumption | (simp only [*]; done))) (by assumption) ?_
  try simp only [Act.put, List.setIfInBounds_toArray, List.set_cons_zero, List.set_cons_succ]
  have hPre := hHeld
  refine wpAnyH_ready (rs := [5]) (by kernel_rfl) (by simp) (AllReadyH.cons (o := { dst := none, op := Op.store 24 (Operand.tmp 10) (Operand.tmp 25), type := 0, pos := "ref.go:115", after := #[{ on := 0, ground := Ground.data }, { on := 0, ground := Ground.phase }, { on := 1, ground := Ground.textOnly Departure.lateStores }, { on := 2, ground := Ground.textOnly Departure.lateStores }, { on := 3, ground := Ground.textOnly Departure.lateStoresUnsure }, { on := 4, ground := Ground.textOnly Departure.lateStores }], guard := none }) rfl (fun K hK => ?_) AllReadyH.nil)
  rw [if_pos (by rfl)]
  refine wp_store_mid _ _ _ rfl _ _ (List.toArray _) rfl rfl (by go_split_ands; first | assumption | (simp only [List.size_toArray, *] <;> assumption)) (by first | assumption | (simp only [List.size_toArray] <;> assumption) | (simp only [List.size_toArray, *]; done)) (all_oneCell_toArray (by assumption)) ?_
  simp only [Act.put, List.setIfInBounds_toArray, List.set_cons_zero, List.set_cons_succ, List.toList_toArray]
  refine hK.out _ _ ?_ (fun hHeld => ?_)
  · (try dsimp only); (go_split_ands; (repeat' apply And.intro) <;> first | assumption | exact Mine.call (by assumption) (by assumption) | exact Mine.alloc (by assumption) _ | exact Mine.setCells (by assumption) _ _ _ (by omega) | exact Mine.callN (by assumption) (by assumption) (by omega) | exact Row.belowN (by assumption) (by assumption) (by omega) | exact there_belowN (by assumption) (by assumption) (by omega) | exact rangeAt_below (by assumption) (by assumption) | exact World.rangeAt_alloc (by assumption) _ | exact World.rangeAt_setCells_apart (by assumption) _ _ _ (Or.inl (by omega)) | exact there_below (by assumption) (by assumption) | exact World.there_alloc (by assumption) _ | exact World.there_setCells (by assumption) _ _ _ | exact Row.belowS (by assumption) (by assumption) | exact Row.alloc (by assumption) _ | exact Row.setCells (by assumption) _ _ (by omega) | exact HS.below (by assumption) (by assumption) | exact SB.below (by assumption) (by assumption) | exact HS.alloc (by assumption) _ | exact Box.call (by assumption) (by assumption) | exact Box.alloc (by assumption) _ | exact Box.put (by assumption) _ (by assumption) | exact cell_below (by assumption) (by assumption) | exact Lib.cell?_alloc_some _ (by assumption))
  clear hK K
  refine wpAnyH_with (E := fun w' => (w'.rangeAt (A + 1) 0 al)) (by (try dsimp only); exact World.rangeAt_setCells_same _ (A + 1) 0 al (by rw [l1]; exact hPre.1.2.1)) hHeld (fun hHeld => ?_)
  try dsimp only at hHeld
  have hPre := hHeld
  refine wpAnyH_ready (rs := [6]) (by kernel_rfl) (by simp) (AllReadyH.cons (o := { dst := none, op := Op.store 24 (Operand.tmp 11) (Operand.tmp 26), type := 0, pos := "ref.go:115", after := #[{ on := 1, ground := Ground.data }, { on := 5, ground := Ground.chain }, { on := 0, ground := Ground.phase }, { on := 1, ground := Ground.phase }, { on := 2, ground := Ground.textOnly Departure.lateStores }, { on := 3, ground := Ground.textOnly Departure.lateStoresUnsure }, { on := 4, ground := Ground.textOnly Departure.lateStores }, { on := 5, ground := Ground.phase }], guard := none }) rfl (fun K hK => ?_) AllReadyH.nil)
  rw [if_pos (by rfl)]
  refine wp_store_mid _ _ _ rfl _ _ (List.toArray _) rfl rfl (by go_split_ands; first | assumption | (simp only [List.size_toArray, *] <;> assumption)) (by first | assumption | (simp only [List.size_toArray] <;> assumption) | (simp only [List.size_toArray, *]; done)) (all_oneCell_toArray (by assumption)) ?_
  simp only [Act.put, List.setIfInBounds_toArray, List.set_cons_zero, List.set_cons_succ, List.toList_toArray]
  refine hK.out _ _ ?_ (fun hHeld => ?_)
  · (try dsimp only); (go_split_ands; (repeat' apply And.intro) <;> first | assumption | exact Mine.call (by assumption) (by assumption) | exact Mine.alloc (by assumption) _ | exact Mine.setCells (by assumption) _ _ _ (by omega) | exact Mine.callN (by assumption) (by assumption) (by omega) | exact Row.belowN (by assumption) (by assumption) (by omega) | exact there_belowN (by assumption) (by assumption) (by omega) | exact rangeAt_below (by assumption) (by assumption) | exact World.rangeAt_alloc (by assumption) _ | exact World.rangeAt_setCells_apart (by assumption) _ _ _ (Or.inl (by omega)) | exact there_below (by assumption) (by assumption) | exact World.there_alloc (by assumption) _ | exact World.there_setCells (by assumption) _ _ _ | exact Row.belowS (by assumption) (by assumption) | exact Row.alloc (by assumption) _ | exact Row.setCells (by assumption) _ _ (by omega) | exact HS.below (by assumption) (by assumption) | exact SB.below (by assumption) (by assumption) | exact HS.alloc (by assumption) _ | exact Box.call (by assumption) (by assumption) | exact Box.alloc (by assumption) _ | exact Box.put (by assumption) _ (by assumption) | exact cell_below (by assumption) (by assumption) | exact Lib.cell?_alloc_some _ (by assumption))
  clear hK K
  refine wpAnyH_with (E := fun w' => (w'.rangeAt (A + 1 + 1) 0 al)) (by (try dsimp only); exact World.rangeAt_setCells_same _ (A + 1 + 1) 0 al (by rw [l1]; exact hPre.1.1.2.2)) hHeld (fun hHeld => ?_)
  try dsimp only at hHeld
  refine wpAnyH_take (i := 7) (oi := { dst := some 12, op := Op.assign (Operand.tmp 29), type := 4, pos := "ref.go:115", after := #[{ on := 4, ground := Ground.data }, { on := 6, ground := Ground.chain }, { on := 0, ground := Ground.phase }, { on := 1, ground := Ground.phase }, { on := 2, ground := Ground.phase }, { on := 3, ground := Ground.phase }, { on := 4, ground := Ground.phase }, { on := 5, ground := Ground.phase }, { on := 6, ground := Ground.phase }], guard := none }) (v := ?v7_3) rfl (by kernel_rfl) (by kernel_rfl) (by kernel_rfl) (fun _ _ _ h => h) (Or.inl ⟨by rfl, ?y7_3⟩) (by assumption) ?r7_3
  case y7_3 => intro w hSw; (try dsimp only at hSw); go_simp; try with_reducible rfl
  try simp only [Act.put, List.setIfInBounds_toArray, List.set_cons_zero, List.set_cons_succ]
  refine wpAnyH_done (by kernel_rfl) ?_ _
  refine NoPanic.normal ?_
  generalize World.setCells _ (A + 1 + 1) 0 al = wz at hHeld ⊢
  go_split_ands
  have hra : wz.rangeAt (A + 1) 0 al := by assumption
  have hrb : wz.rangeAt (A + 1 + 1) 0 al := by assumption
  have hfin := Mine.bel (by assumption : Mine A w wz)
  go_wp2
  refine bodyPost_ret (v := .tuple #[.agg al.toArray, .agg al.toArray, .bool (decide (L = 0))]) (range_result3 hra hrb Try.results57 _ _ _ rfl rfl rfl hu i0 i0) rfl ?_
  exact ⟨old, old, by rw [HAL.out], HLF.out, HLF.out, HY.out, by rw [hA]; exact hfin⟩
set_option maxHeartbeats 2000000 in
set_option maxRecDepth 100000 in
theorem both_part_not (n : Nat) (old : List UInt8) (pv : Value) (ps : List (List UInt8)) (w : World) (hl : old.length = 32) (hv : HS w pv ps) (hlen : ps.length ≠ 1) :
    Calls Try.prog 57 #[.int .i64 (n : Int), .int .i64 (n : Int), .bool false, .agg (enc8 old).toArray, pv] w (BothSays n n false old ps w) := by
  obtain ⟨C, c, rfl, hc, -⟩ := hv.form
  obtain ⟨W, A, hW, hA, hsz, r0, r1, r2, hm⟩ := box_three w (enc8 old)
  have hy : bOk n n false ps = false := by rw [bOk_part]; exact decide_eq_false hlen
  unfold BothSays
  rw [hy]
  obtain ⟨L, hL⟩ : ∃ L, ps.length = L := ⟨_, rfl⟩
  rw [hL] at hlen ⊢
  have i0 := info32 old hl
  obtain ⟨al, hal⟩ : ∃ al, enc8 old = al := ⟨_, rfl⟩
  have l1 : al.length = 32 := by rw [← hal, enc8_len, hl]
  have f1 := enc8_one old
  rw [hal] at hW r0 i0 f1 ⊢
  have HAL := Lib.hid hal
  have HLF := Lib.hid hl
  have HW := Lib.hid hW
  have R0 := Lib.hid r0
  have TH := Lib.hid (And.intro r1 r2)
  have HM := Lib.hid hm
  have q0 : ((L : Int) != 1) = true := by simp; omega
  have q1 : ((n : Int) == n) = true := by simp
  clear hv hW r0 r1 r2 hm hy hL hal hl hc
  have hu := Try.underlying24
  go_enter Try.func57, Try.ntmps57
  go_wp2_with fail
  rw [HW.out]
  go_wp2_with fail
  refine wp_region_noPanic ?_
  refine wp_region_held_drew (S := (fun w' => (Mine A w w' ∧ w'.there (A + 1) 0 32 ∧ w'.there (A + 1 + 1) 0 32) ∧ w'.rangeAt A 0 al)) (by kernel_rfl) ?_ (fun hHeld => ?_)
  · exact ⟨⟨⟨HM.out.le, HM.out.bel.drew⟩, (World.there_drew _ _ _ _).2 TH.out.1, (World.there_drew _ _ _ _).2 TH.out.2⟩, (World.rangeAt_drew _ _ _ _).2 R0.out.range⟩
  refine wpAnyH_take (i := 0) (oi := { dst := some 33, op := Op.load 24 (Operand.tmp 8), type := 24, pos := "ref.go:118", after := #[], guard := none }) (v := _) rfl (by kernel_rfl) (by kernel_rfl) (by kernel_rfl) (fun _ _ _ h => h) (yieldsIf_load_mid (by rfl) _ _ rfl _ _ rfl _ _ (by intro w hSw; (try dsimp only at hSw); go_split_ands; assumption) (by assumption) rfl (by first | assumption | (simp only [*]; done))) (by assumption) ?_
  try simp only [Act.put, List.setIfInBounds_toArray, List.set_cons_zero, List.set_cons_succ]
  refine wpAnyH_take (i := 1) (oi := { dst := some 34, op := Op.load 24 (Operand.tmp 8), type := 24, pos := "ref.go:118", after := #[{ on := 2, ground := Ground.gcOnly Departure.lateStores }], guard := none }) (v := _) rfl (by kernel_rfl) (by kernel_rfl) (by kernel_rfl) (fun _ _ _ h => h) (yieldsIf_load_mid (by rfl) _ _ rfl _ _ rfl _ _ (by intro w hSw; (try dsimp only at hSw); go_split_ands; assumption) (by assumption) rfl (by first | assumption | (simp only [*]; done))) (by assumption) ?_
  try simp only [Act.put, List.setIfInBounds_toArray, List.set_cons_zero, List.set_cons_succ]
  have hPre := hHeld
  refine wpAnyH_ready (rs := [2]) (by kernel_rfl) (by simp) (AllReadyH.cons (o := { dst := none, op := Op.store 24 (Operand.tmp 10) (Operand.tmp 33), type := 0, pos := "ref.go:118", after := #[{ on := 0, ground := Ground.data }, { on := 0, ground := Ground.phase }, { on := 1, ground := Ground.textOnly Departure.lateStores }], guard := none }) rfl (fun K hK => ?_) AllReadyH.nil)
  rw [if_pos (by rfl)]
  refine wp_store_mid _ _ _ rfl _ _ (List.toArray _) rfl rfl (by go_split_ands; first | assumption | (simp only [List.size_toArray, *] <;> assumption)) (by first | assumption | (simp only [List.size_toArray] <;> assumption) | (simp only [List.size_toArray, *]; done)) (all_oneCell_toArray (by assumption)) ?_
  simp only [Act.put, List.setIfInBounds_toArray, List.set_cons_zero, List.set_cons_succ, List.toList_toArray]
  refine hK.out _ _ ?_ (fun hHeld => ?_)
  · (try dsimp only); (go_split_ands; (repeat' apply And.intro) <;> first | assumption | exact Mine.call (by assumption) (by assumption) | exact Mine.alloc (by assumption) _ | exact Mine.setCells (by assumption) _ _ _ (by omega) | exact Mine.callN (by assumption) (by assumption) (by omega) | exact Row.belowN (by assumption) (by assumption) (by omega) | exact there_belowN (by assumption) (by assumption) (by omega) | exact rangeAt_below (by assumption) (by assumption) | exact World.rangeAt_alloc (by assumption) _ | exact World.rangeAt_setCells_apart (by assumption) _ _ _ (Or.inl (by omega)) | exact there_below (by assumption) (by assumption) | exact World.there_alloc (by assumption) _ | exact World.there_setCells (by assumption) _ _ _ | exact Row.belowS (by assumption) (by assumption) | exact Row.alloc (by assumption) _ | exact Row.setCells (by assumption) _ _ (by omega) | exact HS.below (by assumption) (by assumption) | exact SB.below (by assumption) (by assumption) | exact HS.alloc (by assumption) _ | exact Box.call (by assumption) (by assumption) | exact Box.alloc (by assumption) _ | exact Box.put (by assumption) _ (by assumption) | exact cell_below (by assumption) (by assumption) | exact Lib.cell?_alloc_some _ (by assumption))
  clear hK K
  refine wpAnyH_with (E := fun w' => (w'.rangeAt (A + 1) 0 al)) (by (try dsimp only); exact World.rangeAt_setCells_same _ (A + 1) 0 al (by rw [l1]; exact hPre.1.2.1)) hHeld (fun hHeld => ?_)
  try dsimp only at hHeld
  have hPre := hHeld
  refine wpAnyH_ready (rs := [3]) (by kernel_rfl) (by simp) (AllReadyH.cons (o := { dst := none, op := Op.store 24 (Operand.tmp 11) (Operand.tmp 34), type := 0, pos := "ref.go:118", after := #[{ on := 1, ground := Ground.data }, { on := 2, ground := Ground.chain }, { on := 0, ground := Ground.phase }, { on := 1, ground := Ground.phase }, { on := 2, ground := Ground.phase }], guard := none }) rfl (fun K hK => ?_) AllReadyH.nil)
  rw [if_pos (by rfl)]
  refine wp_store_mid _ _ _ rfl _ _ (List.toArray _) rfl rfl (by go_split_ands; first | assumption | (simp only [List.size_toArray, *] <;> assumption)) (by first | assumption | (simp only [List.size_toArray] <;> assumption) | (simp only [List.size_toArray, *]; done)) (all_oneCell_toArray (by assumption)) ?_
  simp only [Act.put, List.setIfInBounds_toArray, List.set_cons_zero, List.set_cons_succ, List.toList_toArray]
  refine hK.out _ _ ?_ (fun hHeld => ?_)
  · (try dsimp only); (go_split_ands; (repeat' apply And.intro) <;> first | assumption | exact Mine.call (by assumption) (by assumption) | exact Mine.alloc (by assumption) _ | exact Mine.setCells (by assumption) _ _ _ (by omega) | exact Mine.callN (by assumption) (by assumption) (by omega) | exact Row.belowN (by assumption) (by assumption) (by omega) | exact there_belowN (by assumption) (by assumption) (by omega) | exact rangeAt_below (by assumption) (by assumption) | exact World.rangeAt_alloc (by assumption) _ | exact World.rangeAt_setCells_apart (by assumption) _ _ _ (Or.inl (by omega)) | exact there_below (by assumption) (by assumption) | exact World.there_alloc (by assumption) _ | exact World.there_setCells (by assumption) _ _ _ | exact Row.belowS (by assumption) (by assumption) | exact Row.alloc (by assumption) _ | exact Row.setCells (by assumption) _ _ (by omega) | exact HS.below (by assumption) (by assumption) | exact SB.below (by assumption) (by assumption) | exact HS.alloc (by assumption) _ | exact Box.call (by assumption) (by assumption) | exact Box.alloc (by assumption) _ | exact Box.put (by assumption) _ (by assumption) | exact cell_below (by assumption) (by assumption) | exact Lib.cell?_alloc_some _ (by assumption))
  clear hK K
  refine wpAnyH_with (E := fun w' => (w'.rangeAt (A + 1 + 1) 0 al)) (by (try dsimp only); exact World.rangeAt_setCells_same _ (A + 1 + 1) 0 al (by rw [l1]; exact hPre.1.1.2.2)) hHeld (fun hHeld => ?_)
  try dsimp only at hHeld
  refine wpAnyH_take (i := 4) (oi := { dst := some 12, op := Op.assign (Operand.const (Value.bool false)), type := 4, pos := "ref.go:118", after := #[{ on := 3, ground := Ground.chain }, { on := 0, ground := Ground.phase }, { on := 1, ground := Ground.phase }, { on := 2, ground := Ground.phase }, { on := 3, ground := Ground.phase }], guard := none }) (v := ?v4_4) rfl (by kernel_rfl) (by kernel_rfl) (by kernel_rfl) (fun _ _ _ h => h) (Or.inl ⟨by rfl, ?y4_4⟩) (by assumption) ?r4_4
  case y4_4 => intro w hSw; (try dsimp only at hSw); go_simp; try with_reducible rfl
  try simp only [Act.put, List.setIfInBounds_toArray, List.set_cons_zero, List.set_cons_succ]
  refine wpAnyH_done (by kernel_rfl) ?_ _
  refine NoPanic.normal ?_
  generalize World.setCells _ (A + 1 + 1) 0 al = wz at hHeld ⊢
  go_split_ands
  have hra : wz.rangeAt (A + 1) 0 al := by assumption
  have hrb : wz.rangeAt (A + 1 + 1) 0 al := by assumption
  have hfin := Mine.bel (by assumption : Mine A w wz)
  go_wp2
  refine bodyPost_ret (v := .tuple #[.agg al.toArray, .agg al.toArray, .bool false]) (range_result3 hra hrb Try.results57 _ _ _ rfl rfl rfl hu i0 i0) rfl ?_
  exact ⟨old, old, by rw [HAL.out], HLF.out, HLF.out, fun h => (by cases h), by rw [hA]; exact hfin⟩
set_option maxHeartbeats 2000000 in
set_option maxRecDepth 100000 in
theorem both_none (n m : Nat) (wh : Bool) (old : List UInt8) (pv : Value) (ps : List (List UInt8)) (w : World) (hl : old.length = 32) (hv : HS w pv ps) (h1 : 1 ≤ m ∧ m < n) (hlen : ps.length = 0) :
    Calls Try.prog 57 #[.int .i64 (m : Int), .int .i64 (n : Int), .bool wh, .agg (enc8 old).toArray, pv] w (BothSays n m wh old ps w) := by
  obtain ⟨C, c, rfl, hc, -⟩ := hv.form
  obtain ⟨W, A, hW, hA, hsz, r0, r1, r2, hm⟩ := box_three w (enc8 old)
  have hy : bOk n m wh ps = false := by rw [List.length_eq_zero_iff.1 hlen]; exact bOk_none n m wh h1
  unfold BothSays
  rw [hy]
  obtain ⟨L, hL⟩ : ∃ L, ps.length = L := ⟨_, rfl⟩
  rw [hL] at hlen ⊢
  have i0 := info32 old hl
  obtain ⟨al, hal⟩ : ∃ al, enc8 old = al := ⟨_, rfl⟩
  have l1 : al.length = 32 := by rw [← hal, enc8_len, hl]
  have f1 := enc8_one old
  rw [hal] at hW r0 i0 f1 ⊢
  have HAL := Lib.hid hal
  have HLF := Lib.hid hl
  have HW := Lib.hid hW
  have R0 := Lib.hid r0
  have TH := Lib.hid (And.intro r1 r2)
  have HM := Lib.hid hm
  have q0 : ((L : Int) == 0) = true := by simp; omega
  have q1 : ((m : Int) == n) = false := by simp; omega
  clear hv hW r0 r1 r2 hm hy hL hal hl hc
  have hu := Try.underlying24
  go_enter Try.func57, Try.ntmps57
  go_wp2_with fail
  rw [HW.out]
  go_wp2_with fail
  refine wp_region_noPanic ?_
  refine wp_region_held_drew (S := (fun w' => (Mine A w w' ∧ w'.there (A + 1) 0 32 ∧ w'.there (A + 1 + 1) 0 32) ∧ w'.rangeAt A 0 al)) (by kernel_rfl) ?_ (fun hHeld => ?_)
  · exact ⟨⟨⟨HM.out.le, HM.out.bel.drew⟩, (World.there_drew _ _ _ _).2 TH.out.1, (World.there_drew _ _ _ _).2 TH.out.2⟩, (World.rangeAt_drew _ _ _ _).2 R0.out.range⟩
  refine wpAnyH_take (i := 0) (oi := { dst := some 44, op := Op.load 24 (Operand.tmp 8), type := 24, pos := "ref.go:123", after := #[], guard := none }) (v := _) rfl (by kernel_rfl) (by kernel_rfl) (by kernel_rfl) (fun _ _ _ h => h) (yieldsIf_load_mid (by rfl) _ _ rfl _ _ rfl _ _ (by intro w hSw; (try dsimp only at hSw); go_split_ands; assumption) (by assumption) rfl (by first | assumption | (simp only [*]; done))) (by assumption) ?_
  try simp only [Act.put, List.setIfInBounds_toArray, List.set_cons_zero, List.set_cons_succ]
  refine wpAnyH_take (i := 1) (oi := { dst := some 45, op := Op.load 24 (Operand.tmp 8), type := 24, pos := "ref.go:123", after := #[{ on := 2, ground := Ground.gcOnly Departure.lateStores }], guard := none }) (v := _) rfl (by kernel_rfl) (by kernel_rfl) (by kernel_rfl) (fun _ _ _ h => h) (yieldsIf_load_mid (by rfl) _ _ rfl _ _ rfl _ _ (by intro w hSw; (try dsimp only at hSw); go_split_ands; assumption) (by assumption) rfl (by first | assumption | (simp only [*]; done))) (by assumption) ?_
  try simp only [Act.put, List.setIfInBounds_toArray, List.set_cons_zero, List.set_cons_succ]
  have hPre := hHeld
  refine wpAnyH_ready (rs := [2]) (by kernel_rfl) (by simp) (AllReadyH.cons (o := { dst := none, op := Op.store 24 (Operand.tmp 10) (Operand.tmp 44), type := 0, pos := "ref.go:123", after := #[{ on := 0, ground := Ground.data }, { on := 0, ground := Ground.phase }, { on := 1, ground := Ground.textOnly Departure.lateStores }], guard := none }) rfl (fun K hK => ?_) AllReadyH.nil)
  rw [if_pos (by rfl)]
  refine wp_store_mid _ _ _ rfl _ _ (List.toArray _) rfl rfl (by go_split_ands; first | assumption | (simp only [List.size_toArray, *] <;> assumption)) (by first | assumption | (simp only [List.size_toArray] <;> assumption) | (simp only [List.size_toArray, *]; done)) (all_oneCell_toArray (by assumption)) ?_
  simp only [Act.put, List.setIfInBounds_toArray, List.set_cons_zero, List.set_cons_succ, List.toList_toArray]
  refine hK.out _ _ ?_ (fun hHeld => ?_)
  · (try dsimp only); (go_split_ands; (repeat' apply And.intro) <;> first | assumption | exact Mine.call (by assumption) (by assumption) | exact Mine.alloc (by assumption) _ | exact Mine.setCells (by assumption) _ _ _ (by omega) | exact Mine.callN (by assumption) (by assumption) (by omega) | exact Row.belowN (by assumption) (by assumption) (by omega) | exact there_belowN (by assumption) (by assumption) (by omega) | exact rangeAt_below (by assumption) (by assumption) | exact World.rangeAt_alloc (by assumption) _ | exact World.rangeAt_setCells_apart (by assumption) _ _ _ (Or.inl (by omega)) | exact there_below (by assumption) (by assumption) | exact World.there_alloc (by assumption) _ | exact World.there_setCells (by assumption) _ _ _ | exact Row.belowS (by assumption) (by assumption) | exact Row.alloc (by assumption) _ | exact Row.setCells (by assumption) _ _ (by omega) | exact HS.below (by assumption) (by assumption) | exact SB.below (by assumption) (by assumption) | exact HS.alloc (by assumption) _ | exact Box.call (by assumption) (by assumption) | exact Box.alloc (by assumption) _ | exact Box.put (by assumption) _ (by assumption) | exact cell_below (by assumption) (by assumption) | exact Lib.cell?_alloc_some _ (by assumption))
  clear hK K
  refine wpAnyH_with (E := fun w' => (w'.rangeAt (A + 1) 0 al)) (by (try dsimp only); exact World.rangeAt_setCells_same _ (A + 1) 0 al (by rw [l1]; exact hPre.1.2.1)) hHeld (fun hHeld => ?_)
  try dsimp only at hHeld
  have hPre := hHeld
  refine wpAnyH_ready (rs := [3]) (by kernel_rfl) (by simp) (AllReadyH.cons (o := { dst := none, op := Op.store 24 (Operand.tmp 11) (Operand.tmp 45), type := 0, pos := "ref.go:123", after := #[{ on := 1, ground := Ground.data }, { on := 2, ground := Ground.chain }, { on := 0, ground := Ground.phase }, { on := 1, ground := Ground.phase }, { on := 2, ground := Ground.phase }], guard := none }) rfl (fun K hK => ?_) AllReadyH.nil)
  rw [if_pos (by rfl)]
  refine wp_store_mid _ _ _ rfl _ _ (List.toArray _) rfl rfl (by go_split_ands; first | assumption | (simp only [List.size_toArray, *] <;> assumption)) (by first | assumption | (simp only [List.size_toArray] <;> assumption) | (simp only [List.size_toArray, *]; done)) (all_oneCell_toArray (by assumption)) ?_
  simp only [Act.put, List.setIfInBounds_toArray, List.set_cons_zero, List.set_cons_succ, List.toList_toArray]
  refine hK.out _ _ ?_ (fun hHeld => ?_)
  · (try dsimp only); (go_split_ands; (repeat' apply And.intro) <;> first | assumption | exact Mine.call (by assumption) (by assumption) | exact Mine.alloc (by assumption) _ | exact Mine.setCells (by assumption) _ _ _ (by omega) | exact Mine.callN (by assumption) (by assumption) (by omega) | exact Row.belowN (by assumption) (by assumption) (by omega) | exact there_belowN (by assumption) (by assumption) (by omega) | exact rangeAt_below (by assumption) (by assumption) | exact World.rangeAt_alloc (by assumption) _ | exact World.rangeAt_setCells_apart (by assumption) _ _ _ (Or.inl (by omega)) | exact there_below (by assumption) (by assumption) | exact World.there_alloc (by assumption) _ | exact World.there_setCells (by assumption) _ _ _ | exact Row.belowS (by assumption) (by assumption) | exact Row.alloc (by assumption) _ | exact Row.setCells (by assumption) _ _ (by omega) | exact HS.below (by assumption) (by assumption) | exact SB.below (by assumption) (by assumption) | exact HS.alloc (by assumption) _ | exact Box.call (by assumption) (by assumption) | exact Box.alloc (by assumption) _ | exact Box.put (by assumption) _ (by assumption) | exact cell_below (by assumption) (by assumption) | exact Lib.cell?_alloc_some _ (by assumption))
  clear hK K
  refine wpAnyH_with (E := fun w' => (w'.rangeAt (A + 1 + 1) 0 al)) (by (try dsimp only); exact World.rangeAt_setCells_same _ (A + 1 + 1) 0 al (by rw [l1]; exact hPre.1.1.2.2)) hHeld (fun hHeld => ?_)
  try dsimp only at hHeld
  refine wpAnyH_take (i := 4) (oi := { dst := some 12, op := Op.assign (Operand.const (Value.bool false)), type := 4, pos := "ref.go:123", after := #[{ on := 3, ground := Ground.chain }, { on := 0, ground := Ground.phase }, { on := 1, ground := Ground.phase }, { on := 2, ground := Ground.phase }, { on := 3, ground := Ground.phase }], guard := none }) (v := ?v4_5) rfl (by kernel_rfl) (by kernel_rfl) (by kernel_rfl) (fun _ _ _ h => h) (Or.inl ⟨by rfl, ?y4_5⟩) (by assumption) ?r4_5
  case y4_5 => intro w hSw; (try dsimp only at hSw); go_simp; try with_reducible rfl
  try simp only [Act.put, List.setIfInBounds_toArray, List.set_cons_zero, List.set_cons_succ]
  refine wpAnyH_done (by kernel_rfl) ?_ _
  refine NoPanic.normal ?_
  generalize World.setCells _ (A + 1 + 1) 0 al = wz at hHeld ⊢
  go_split_ands
  have hra : wz.rangeAt (A + 1) 0 al := by assumption
  have hrb : wz.rangeAt (A + 1 + 1) 0 al := by assumption
  have hfin := Mine.bel (by assumption : Mine A w wz)
  go_wp2
  refine bodyPost_ret (v := .tuple #[.agg al.toArray, .agg al.toArray, .bool false]) (range_result3 hra hrb Try.results57 _ _ _ rfl rfl rfl hu i0 i0) rfl ?_
  exact ⟨old, old, by rw [HAL.out], HLF.out, HLF.out, fun h => (by cases h), by rw [hA]; exact hfin⟩
set_option maxHeartbeats 2000000 in
set_option maxRecDepth 100000 in
theorem both_part (n : Nat) (old p : List UInt8) (pv : Value) (w : World) (hl : old.length = 32) (hv : HS w pv [p]) :
    Calls Try.prog 57 #[.int .i64 (n : Int), .int .i64 (n : Int), .bool false, .agg (enc8 old).toArray, pv] w (BothSays n n false old [p] w) := by
  obtain ⟨C, c, rfl, hc, -⟩ := hv.form
  obtain ⟨W, A, hW, hA, hsz, r0, r1, r2, hm⟩ := box_three w (enc8 old)
  have hy : bOk n n false [p] = true := bOk_part n [p]
  obtain ⟨p32, -, g, o, rfl, rp⟩ := hv.at_ 0 (by simp) p rfl
  have hgA : g < A := by
    have h0 := rp 0 (.int .u8 (gb p 0)) (enc8_get p 0 (by omega))
    rw [← hA]
    exact World.block_lt_of_cell? w _ h0
  have htw := bTwo_part n old p
  unfold BothSays
  rw [hy, htw]
  have ka := fun w => sums_runh (some ⟨g, o, none⟩) 1 c 0 (by omega) 0 rfl w
  have i0 := info32 p p32
  obtain ⟨al, hal⟩ : ∃ al, enc8 old = al := ⟨_, rfl⟩
  obtain ⟨ap, hap⟩ : ∃ al, enc8 p = al := ⟨_, rfl⟩
  have l1 : ap.length = 32 := by rw [← hap, enc8_len, p32]
  have f1 := enc8_one p
  rw [hal] at hW ⊢
  rw [hap] at rp i0 f1
  have hrp : W.rangeAt g (o + 0 * 32) ap := rangeAt_below rp (by rw [hA]; exact hm.bel)
  rw [Nat.zero_mul, Nat.add_zero] at hrp
  have HAP := Lib.hid hap
  have HLF := Lib.hid p32
  have HW := Lib.hid hW
  have TH := Lib.hid (And.intro r1 r2)
  have HM := Lib.hid hm
  have HRP := Lib.hid hrp
  have q0 : (((1 : Nat) : Int) != 1) = false := by simp
  have q1 : ((n : Int) == n) = true := by simp
  rw [show ([p] : List (List UInt8)).length = 1 from rfl]
  clear hv hW r0 r1 r2 hm hy hal hl hc htw rp hrp hap
  have hu := Try.underlying24
  go_enter Try.func57, Try.ntmps57
  go_wp2_with fail
  rw [HW.out]
  go_wp2_with fail
  refine wp_region_noPanic ?_
  refine wp_region_held_drew (S := (fun w' => (Mine A w w' ∧ w'.there (A + 1) 0 32 ∧ w'.there (A + 1 + 1) 0 32) ∧ w'.rangeAt g o ap)) (by kernel_rfl) ?_ (fun hHeld => ?_)
  · exact ⟨⟨⟨HM.out.le, HM.out.bel.drew⟩, (World.there_drew _ _ _ _).2 TH.out.1, (World.there_drew _ _ _ _).2 TH.out.2⟩, (World.rangeAt_drew _ _ _ _).2 HRP.out⟩
  refine wpAnyH_take (i := 0) (oi := { dst := some 35, op := Op.move (Operand.tmp 4), type := 29, pos := "ref.go:120", after := #[], guard := none }) (v := ?v0_6) rfl (by kernel_rfl) (by kernel_rfl) (by kernel_rfl) (fun _ _ _ h => h) (Or.inl ⟨by rfl, ?y0_6⟩) (by assumption) ?r0_6
  case y0_6 => intro w hSw; (try dsimp only at hSw); go_simp; try with_reducible rfl
  try simp only [Act.put, List.setIfInBounds_toArray, List.set_cons_zero, List.set_cons_succ]
  refine wpAnyH_take (i := 1) (oi := { dst := some 36, op := Op.indexAddr 29 (Operand.tmp 35) (Operand.const (Value.int IntKind.i64 0)), type := 0, pos := "ref.go:120", after := #[{ on := 0, ground := Ground.data }], guard := none }) (v := ?v1_7) rfl (by kernel_rfl) (by kernel_rfl) (by kernel_rfl) (fun _ _ _ h => h) (Or.inl ⟨by rfl, ?y1_7⟩) (by assumption) ?r1_7
  case y1_7 => intro w hSw; (try dsimp only at hSw); go_simp; try with_reducible rfl
  try simp only [Act.put, List.setIfInBounds_toArray, List.set_cons_zero, List.set_cons_succ]
  refine wpAnyH_take (i := 3) (oi := { dst := some 38, op := Op.move (Operand.tmp 4), type := 29, pos := "ref.go:120", after := #[{ on := 6, ground := Ground.gcOnly Departure.lateStores }], guard := none }) (v := ?v3_8) rfl (by kernel_rfl) (by kernel_rfl) (by kernel_rfl) (fun _ _ _ h => h) (Or.inl ⟨by rfl, ?y3_8⟩) (by assumption) ?r3_8
  case y3_8 => intro w hSw; (try dsimp only at hSw); go_simp; try with_reducible rfl
  try simp only [Act.put, List.setIfInBounds_toArray, List.set_cons_zero, List.set_cons_succ]
  refine wpAnyH_take (i := 4) (oi := { dst := some 39, op := Op.indexAddr 29 (Operand.tmp 38) (Operand.const (Value.int IntKind.i64 0)), type := 0, pos := "ref.go:120", after := #[{ on := 3, ground := Ground.data }, { on := 6, ground := Ground.gcOnly Departure.lateStores }], guard := none }) (v := ?v4_9) rfl (by kernel_rfl) (by kernel_rfl) (by kernel_rfl) (fun _ _ _ h => h) (Or.inl ⟨by rfl, ?y4_9⟩) (by assumption) ?r4_9
  case y4_9 => intro w hSw; (try dsimp only at hSw); go_simp; try with_reducible rfl
  try simp only [Act.put, List.setIfInBounds_toArray, List.set_cons_zero, List.set_cons_succ]
  refine wpAnyH_take (i := 2) (oi := { dst := some 37, op := Op.load 24 (Operand.tmp 36), type := 24, pos := "ref.go:120", after := #[{ on := 1, ground := Ground.data }], guard := none }) (v := _) rfl (by kernel_rfl) (by kernel_rfl) (by kernel_rfl) (fun _ _ _ h => h) (yieldsIf_load_mid (by rfl) _ _ rfl _ _ rfl _ _ (by intro w hSw; (try dsimp only at hSw); go_split_ands; assumption) (by assumption) rfl (by first | assumption | (simp only [*]; done))) (by assumption) ?_
  try simp only [Act.put, List.setIfInBounds_toArray, List.set_cons_zero, List.set_cons_succ]
  refine wpAnyH_take (i := 5) (oi := { dst := some 40, op := Op.load 24 (Operand.tmp 39), type := 24, pos := "ref.go:120", after := #[{ on := 4, ground := Ground.data }, { on := 6, ground := Ground.gcOnly Departure.lateStores }], guard := none }) (v := _) rfl (by kernel_rfl) (by kernel_rfl) (by kernel_rfl) (fun _ _ _ h => h) (yieldsIf_load_mid (by rfl) _ _ rfl _ _ rfl _ _ (by intro w hSw; (try dsimp only at hSw); go_split_ands; assumption) (by assumption) rfl (by first | assumption | (simp only [*]; done))) (by assumption) ?_
  try simp only [Act.put, List.setIfInBounds_toArray, List.set_cons_zero, List.set_cons_succ]
  have hPre := hHeld
  refine wpAnyH_ready (rs := [6]) (by kernel_rfl) (by simp) (AllReadyH.cons (o := { dst := none, op := Op.store 24 (Operand.tmp 10) (Operand.tmp 37), type := 0, pos := "ref.go:120", after := #[{ on := 2, ground := Ground.data }, { on := 0, ground := Ground.phase }, { on := 1, ground := Ground.phase }, { on := 2, ground := Ground.phase }, { on := 3, ground := Ground.textOnly Departure.lateStores }, { on := 4, ground := Ground.textOnly Departure.lateStores }, { on := 5, ground := Ground.textOnly Departure.lateStores }], guard := none }) rfl (fun K hK => ?_) AllReadyH.nil)
  rw [if_pos (by rfl)]
  refine wp_store_mid _ _ _ rfl _ _ (List.toArray _) rfl rfl (by go_split_ands; first | assumption | (simp only [List.size_toArray, *] <;> assumption)) (by first | assumption | (simp only [List.size_toArray] <;> assumption) | (simp only [List.size_toArray, *]; done)) (all_oneCell_toArray (by assumption)) ?_
  simp only [Act.put, List.setIfInBounds_toArray, List.set_cons_zero, List.set_cons_succ, List.toList_toArray]
  refine hK.out _ _ ?_ (fun hHeld => ?_)
  · (try dsimp only); (go_split_ands; (repeat' apply And.intro) <;> first | assumption | exact Mine.call (by assumption) (by assumption) | exact Mine.alloc (by assumption) _ | exact Mine.setCells (by assumption) _ _ _ (by omega) | exact Mine.callN (by assumption) (by assumption) (by omega) | exact Row.belowN (by assumption) (by assumption) (by omega) | exact there_belowN (by assumption) (by assumption) (by omega) | exact rangeAt_below (by assumption) (by assumption) | exact World.rangeAt_alloc (by assumption) _ | exact World.rangeAt_setCells_apart (by assumption) _ _ _ (Or.inl (by omega)) | exact there_below (by assumption) (by assumption) | exact World.there_alloc (by assumption) _ | exact World.there_setCells (by assumption) _ _ _ | exact Row.belowS (by assumption) (by assumption) | exact Row.alloc (by assumption) _ | exact Row.setCells (by assumption) _ _ (by omega) | exact HS.below (by assumption) (by assumption) | exact SB.below (by assumption) (by assumption) | exact HS.alloc (by assumption) _ | exact Box.call (by assumption) (by assumption) | exact Box.alloc (by assumption) _ | exact Box.put (by assumption) _ (by assumption) | exact cell_below (by assumption) (by assumption) | exact Lib.cell?_alloc_some _ (by assumption))
  clear hK K
  refine wpAnyH_with (E := fun w' => (w'.rangeAt (A + 1) 0 ap)) (by (try dsimp only); exact World.rangeAt_setCells_same _ (A + 1) 0 ap (by rw [l1]; exact hPre.1.2.1)) hHeld (fun hHeld => ?_)
  try dsimp only at hHeld
  have hPre := hHeld
  refine wpAnyH_ready (rs := [7]) (by kernel_rfl) (by simp) (AllReadyH.cons (o := { dst := none, op := Op.store 24 (Operand.tmp 11) (Operand.tmp 40), type := 0, pos := "ref.go:120", after := #[{ on := 5, ground := Ground.data }, { on := 6, ground := Ground.chain }, { on := 0, ground := Ground.phase }, { on := 1, ground := Ground.phase }, { on := 2, ground := Ground.phase }, { on := 3, ground := Ground.phase }, { on := 4, ground := Ground.phase }, { on := 5, ground := Ground.phase }, { on := 6, ground := Ground.phase }], guard := none }) rfl (fun K hK => ?_) AllReadyH.nil)
  rw [if_pos (by rfl)]
  refine wp_store_mid _ _ _ rfl _ _ (List.toArray _) rfl rfl (by go_split_ands; first | assumption | (simp only [List.size_toArray, *] <;> assumption)) (by first | assumption | (simp only [List.size_toArray] <;> assumption) | (simp only [List.size_toArray, *]; done)) (all_oneCell_toArray (by assumption)) ?_
  simp only [Act.put, List.setIfInBounds_toArray, List.set_cons_zero, List.set_cons_succ, List.toList_toArray]
  refine hK.out _ _ ?_ (fun hHeld => ?_)
  · (try dsimp only); (go_split_ands; (repeat' apply And.intro) <;> first | assumption | exact Mine.call (by assumption) (by assumption) | exact Mine.alloc (by assumption) _ | exact Mine.setCells (by assumption) _ _ _ (by omega) | exact Mine.callN (by assumption) (by assumption) (by omega) | exact Row.belowN (by assumption) (by assumption) (by omega) | exact there_belowN (by assumption) (by assumption) (by omega) | exact rangeAt_below (by assumption) (by assumption) | exact World.rangeAt_alloc (by assumption) _ | exact World.rangeAt_setCells_apart (by assumption) _ _ _ (Or.inl (by omega)) | exact there_below (by assumption) (by assumption) | exact World.there_alloc (by assumption) _ | exact World.there_setCells (by assumption) _ _ _ | exact Row.belowS (by assumption) (by assumption) | exact Row.alloc (by assumption) _ | exact Row.setCells (by assumption) _ _ (by omega) | exact HS.below (by assumption) (by assumption) | exact SB.below (by assumption) (by assumption) | exact HS.alloc (by assumption) _ | exact Box.call (by assumption) (by assumption) | exact Box.alloc (by assumption) _ | exact Box.put (by assumption) _ (by assumption) | exact cell_below (by assumption) (by assumption) | exact Lib.cell?_alloc_some _ (by assumption))
  clear hK K
  refine wpAnyH_with (E := fun w' => (w'.rangeAt (A + 1 + 1) 0 ap)) (by (try dsimp only); exact World.rangeAt_setCells_same _ (A + 1 + 1) 0 ap (by rw [l1]; exact hPre.1.1.2.2)) hHeld (fun hHeld => ?_)
  try dsimp only at hHeld
  refine wpAnyH_take (i := 8) (oi := { dst := some 12, op := Op.assign (Operand.const (Value.bool true)), type := 4, pos := "ref.go:120", after := #[{ on := 7, ground := Ground.chain }, { on := 0, ground := Ground.phase }, { on := 1, ground := Ground.phase }, { on := 2, ground := Ground.phase }, { on := 3, ground := Ground.phase }, { on := 4, ground := Ground.phase }, { on := 5, ground := Ground.phase }, { on := 6, ground := Ground.phase }, { on := 7, ground := Ground.phase }], guard := none }) (v := ?v8_10) rfl (by kernel_rfl) (by kernel_rfl) (by kernel_rfl) (fun _ _ _ h => h) (Or.inl ⟨by rfl, ?y8_10⟩) (by assumption) ?r8_10
  case y8_10 => intro w hSw; (try dsimp only at hSw); go_simp; try with_reducible rfl
  try simp only [Act.put, List.setIfInBounds_toArray, List.set_cons_zero, List.set_cons_succ]
  refine wpAnyH_done (by kernel_rfl) ?_ _
  refine NoPanic.normal ?_
  generalize World.setCells _ (A + 1 + 1) 0 ap = wz at hHeld ⊢
  go_split_ands
  have hra : wz.rangeAt (A + 1) 0 ap := by assumption
  have hrb : wz.rangeAt (A + 1 + 1) 0 ap := by assumption
  have hfin := Mine.bel (by assumption : Mine A w wz)
  go_wp2
  refine bodyPost_ret (v := .tuple #[.agg ap.toArray, .agg ap.toArray, .bool true]) (range_result3 hra hrb Try.results57 _ _ _ rfl rfl rfl hu i0 i0) rfl ?_
  exact ⟨p, p, by rw [HAP.out], HLF.out, HLF.out, fun _ => rfl, by rw [hA]; exact hfin⟩
end Go.Proofs.Ytkipnhhdlohnfaa

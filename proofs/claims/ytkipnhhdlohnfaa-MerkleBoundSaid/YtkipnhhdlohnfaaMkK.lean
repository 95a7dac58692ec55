/- MerkleRoots, MerkleProofs. -/
import Derived.RangeFuncNested
import Derived.RangeFuncBound
import Derived.RangeFuncCalls
import Derived.RangeFuncLeaves
import Derived.Shelf.Abstract
import Derived.Shelf.RegionOpen
import Derived.WalkKit
import Derived.OwnWalkIn
import Derived.TacticsInMore
import Derived.LoopNIn
import Derived.LoopIn
import Derived.Outline
import Derived.Lib.Hide
import Derived.Lib.SliceRun
import Derived.IntWalk
import Derived.WalkLawsBesides
import Derived.WalkSpells
import Derived.Laws.BitsAllLaws
import Derived.Lib.ConvBytes
import Derived.Maps.AppendAt
import Derived.Lib.AppendStr
import Derived.Lib.SlBytesConst
import Derived.Laws.AppendOwnNone
import Derived.Laws.OwnMore
import Derived.Laws.BytesArg
import Derived.Deep.RegionHeld3
import Derived.BigQuiet
import Derived.Deep.RegionLaw
import Derived.Deep.QuietTactic
import Derived.Lib.OthersKept
import Derived.Test.YtkipnhhdlohnfaaProg
import Derived.Deep.DeepFit
import Derived.Test.YtkipnhhdlohnfaaMkJ
set_option linter.unusedVariables false
set_option linter.unusedSimpArgs false
namespace Go.Proofs.Ytkipnhhdlohnfaa
open Go Go.RowKit Go.Shelf

set_option maxHeartbeats 2000000 in
set_option maxRecDepth 100000 in
theorem roots_many (v : Value) (b : List UInt8) (u : Value) (ls : List (List UInt8)) (w : World) (hv : SB w v b) (hu : HS w u ls) (k : 500 < b.length ∨ 20 < ls.length) :
    Calls Try.prog 5 #[v, u] w fun e w' => e = .returned (.bool true) ∧ Below w.heap.size w w' := by
  obtain ⟨C, c, rfl, -⟩ := hv.form
  by_cases kb : 500 < b.length
  · have d1 : decide (500 < b.length) = true := by simpa using kb
    have d2 : decide ((500 : Int) < (b.length : Int)) = true := by simp; omega
    clear k hv hu
    go_enter Try.func5, Try.ntmps5
    go_wp2_with fail
    refine (awake05_any _).mono ?_
    rintro e w1 ⟨rfl, hb1⟩
    go_wp2
    go_ret
    exact ⟨rfl, hb1⟩
  · have d1 : decide (500 < b.length) = false := by simp; omega
    have d2 : decide ((500 : Int) < (b.length : Int)) = false := by simp; omega
    have hf := fun w' hb => few_any u ls w' (hu.below (W' := w') hb)
    rw [show decide (ls.length ≤ 20) = false by simp; omega] at hf
    have HF := Lib.hid hf
    clear k hv hu hf
    go_enter Try.func5, Try.ntmps5
    go_wp2_with fail
    refine (awake05_any _).mono ?_
    rintro e w1 ⟨rfl, hb1⟩
    have HB1 := Lib.hid hb1
    clear hb1
    go_wp2_with fail
    refine (HF.out _ HB1.out).mono ?_
    rintro e w2 ⟨rfl, rfl⟩
    go_wp2
    go_ret
    exact ⟨rfl, HB1.out⟩

set_option maxHeartbeats 4000000 in
set_option maxRecDepth 100000 in
theorem roots_few (v : Value) (b : List UInt8) (u : Value) (ls : List (List UInt8)) (w : World) (hv : SB w v b) (hu : HS w u ls) (kb : b.length ≤ 500) (kl : ls.length ≤ 20) :
    Calls Try.prog 5 #[v, u] w fun e w' => e = .returned (.bool true) ∧ Below w.heap.size w w' := by
  obtain ⟨C, c, rfl, -⟩ := hv.form
  obtain ⟨D, d, rfl, hdc, -⟩ := hu.form
  have d1 : decide (500 < b.length) = false := by simp; omega
  have d2 : decide ((500 : Int) < (b.length : Int)) = false := by simp; omega
  have hf := fun w' hb => few_any _ ls w' (hu.below (W' := w') hb)
  rw [show decide (ls.length ≤ 20) = true by simp; omega] at hf
  have hleaf := fun w' hb => leaf_any _ b w' (hv.below (W' := w') hb) (by omega)
  have hqleaf := fun w' hb => qleaf_any _ b w' (hv.below (W' := w') hb) (by omega)
  have hroot := fun w' hb => root_any (ls.length + 1) _ ls w' (by omega) (hu.below (W' := w') hb)
  have hqroot := fun w' hb => qroot_any (ls.length + 1) _ ls w' (by omega) (hu.below (W' := w') hb)
  have nl := leafL_length b
  have nr := rootL_length ls hu.all
  have q1 := run_neq_sum (leafL b) (leafL b) nl nl
  have q2 := run_neq_sum (rootL ls) (rootL ls) nr nr
  simp only [beq_self_eq_true, Bool.not_true] at q1 q2
  have HU := Lib.hid hu
  obtain ⟨x1, hx1⟩ : ∃ x, enc8 (leafL b) = x := ⟨_, rfl⟩
  obtain ⟨x2, hx2⟩ : ∃ x, enc8 (rootL ls) = x := ⟨_, rfl⟩
  rw [hx1] at q1
  rw [hx2] at q2
  simp only [hx1] at hleaf hqleaf
  simp only [hx2] at hroot hqroot
  have HF := Lib.hid hf
  have HLE := Lib.hid hleaf
  have HQL := Lib.hid hqleaf
  have HRO := Lib.hid hroot
  have HQR := Lib.hid hqroot
  obtain ⟨n, hn⟩ : ∃ n, ls.length = n := ⟨_, rfl⟩
  obtain ⟨m, hm⟩ : ∃ m, b.length = m := ⟨_, rfl⟩
  have HNn := Lib.hid hn
  rw [hn] at HU HF HRO HQR hdc ⊢
  rw [hm] at HLE HQL d1 d2 ⊢
  clear hv hu hf hleaf hqleaf hroot hqroot nl nr hx1 hx2 hn hm kb
  go_enter Try.func5, Try.ntmps5
  go_wp2_with fail
  refine (awake05_any _).mono ?_
  rintro e w1 ⟨rfl, hb1⟩
  have HB1 := Lib.hid hb1
  clear hb1
  go_wp2_with fail
  refine (HF.out _ HB1.out).mono ?_
  rintro e w2 ⟨rfl, rfl⟩
  go_wp2_with fail
  refine (HLE.out _ HB1.out).mono ?_
  rintro e w2 ⟨rfl, hb2⟩
  have HB2 := Lib.hid (below_on hb2 HB1.out)
  clear hb2 HB1
  go_wp2_with fail
  refine (HQL.out _ HB2.out).mono ?_
  rintro e w3 ⟨rfl, hb3⟩
  have HB3 := Lib.hid (below_on hb3 HB2.out)
  clear hb3 HB2
  go_wp2_with fail
  refine (HRO.out _ HB3.out).mono ?_
  rintro e w4 ⟨rfl, hb4⟩
  have HB4 := Lib.hid (below_on hb4 HB3.out)
  clear hb4 HB3
  go_wp2_with fail
  refine (HQR.out _ HB4.out).mono ?_
  rintro e w5 ⟨rfl, hb5⟩
  have hb5' := below_on hb5 HB4.out
  have HB5 := Lib.hid hb5'
  have HU5 := Lib.hid (HU.out.below hb5')
  clear hb5 hb5' HB4 HU HF HLE HQL HRO HQR
  by_cases h2 : n < 2
  · have e1 : decide (n < 2) = true := by simpa using h2
    have e2 : decide ((n : Int) < 2) = true := by simp; omega
    go_wp2_with fail
    refine wp_region_noPanic ?_
    refine wp_region_held_drew (S := (fun w' => Mine w.heap.size w w')) (by kernel_rfl) ?_ (fun hHeld => ?_)
    · exact ⟨HB5.out.size, HB5.out.drew⟩
    refine wpAnyH_take (i := 0) (oi := { dst := some 27, op := Op.move (Operand.tmp 1), type := 29, pos := "law.go:44", after := #[], guard := none }) (v := ?v0_0) rfl (by kernel_rfl) (by kernel_rfl) (by kernel_rfl) (fun _ _ _ h => h) (Or.inl ⟨by rfl, ?y0_0⟩) (by assumption) ?r0_0
    case y0_0 => intro w hSw; (try dsimp only at hSw); go_simp; try with_reducible rfl
    try simp only [Act.put, List.setIfInBounds_toArray, List.set_cons_zero, List.set_cons_succ]
    refine wpAnyH_take (i := 1) (oi := { dst := some 28, op := Op.call { callee := Callee.builtin Builtin.len, args := #[Operand.tmp 27], argTypes := #[29] }, type := 3, pos := "law.go:44", after := #[{ on := 0, ground := Ground.data }], guard := none }) (v := ?v1_1) rfl (by kernel_rfl) (by kernel_rfl) (by kernel_rfl) (fun _ _ _ h => h) (Or.inl ⟨by rfl, ?y1_1⟩) (by assumption) ?r1_1
    case y1_1 => intro w hSw; (try dsimp only at hSw); go_simp; try with_reducible rfl
    try simp only [Act.put, List.setIfInBounds_toArray, List.set_cons_zero, List.set_cons_succ]
    refine wpAnyH_take (i := 2) (oi := { dst := some 29, op := Op.binOp BinOp.lss 3 (Operand.tmp 28) (Operand.const (Value.int IntKind.i64 2)) 3, type := 4, pos := "law.go:44", after := #[{ on := 1, ground := Ground.data }], guard := none }) (v := ?v2_2) rfl (by kernel_rfl) (by kernel_rfl) (by kernel_rfl) (fun _ _ _ h => h) (Or.inl ⟨by rfl, ?y2_2⟩) (by assumption) ?r2_2
    case y2_2 => intro w hSw; (try dsimp only at hSw); go_simp; try with_reducible rfl
    try simp only [Act.put, List.setIfInBounds_toArray, List.set_cons_zero, List.set_cons_succ]
    refine wpAnyH_take (i := 3) (oi := { dst := some 30, op := Op.move (Operand.tmp 29), type := 4, pos := "law.go:44", after := #[{ on := 2, ground := Ground.data }], guard := none }) (v := ?v3_3) rfl (by kernel_rfl) (by kernel_rfl) (by kernel_rfl) (fun _ _ _ h => h) (Or.inl ⟨by rfl, ?y3_3⟩) (by assumption) ?r3_3
    case y3_3 => intro w hSw; (try dsimp only at hSw); go_simp; try with_reducible rfl
    try simp only [Act.put, List.setIfInBounds_toArray, List.set_cons_zero, List.set_cons_succ]
    refine wpAnyH_take (i := 4) (oi := { dst := some 31, op := Op.move (Operand.tmp 1), type := 29, pos := "law.go:44", after := #[{ on := 3, ground := Ground.guard }], guard := some (3, false) }) (v := undef) rfl (by kernel_rfl) (by kernel_rfl) (by kernel_rfl) (fun _ _ _ h => h) (Or.inr ⟨by rfl, rfl⟩) (by assumption) ?_
    try simp only [Act.put, List.setIfInBounds_toArray, List.set_cons_zero, List.set_cons_succ]
    refine wpAnyH_take (i := 5) (oi := { dst := some 32, op := Op.indexAddr 29 (Operand.tmp 31) (Operand.const (Value.int IntKind.i64 0)), type := 0, pos := "law.go:44", after := #[{ on := 4, ground := Ground.data }, { on := 3, ground := Ground.guard }], guard := some (3, false) }) (v := undef) rfl (by kernel_rfl) (by kernel_rfl) (by kernel_rfl) (fun _ _ _ h => h) (Or.inr ⟨by rfl, rfl⟩) (by assumption) ?_
    try simp only [Act.put, List.setIfInBounds_toArray, List.set_cons_zero, List.set_cons_succ]
    refine wpAnyH_take (i := 6) (oi := { dst := some 33, op := Op.load 24 (Operand.tmp 32), type := 24, pos := "law.go:44", after := #[{ on := 5, ground := Ground.data }, { on := 3, ground := Ground.guard }], guard := some (3, false) }) (v := undef) rfl (by kernel_rfl) (by kernel_rfl) (by kernel_rfl) (fun _ _ _ h => h) (Or.inr ⟨by rfl, rfl⟩) (by assumption) ?_
    try simp only [Act.put, List.setIfInBounds_toArray, List.set_cons_zero, List.set_cons_succ]
    refine wpAnyH_take (i := 7) (oi := { dst := some 34, op := Op.move (Operand.tmp 1), type := 29, pos := "law.go:44", after := #[{ on := 3, ground := Ground.guard }], guard := some (3, false) }) (v := undef) rfl (by kernel_rfl) (by kernel_rfl) (by kernel_rfl) (fun _ _ _ h => h) (Or.inr ⟨by rfl, rfl⟩) (by assumption) ?_
    try simp only [Act.put, List.setIfInBounds_toArray, List.set_cons_zero, List.set_cons_succ]
    refine wpAnyH_take (i := 8) (oi := { dst := some 35, op := Op.indexAddr 29 (Operand.tmp 34) (Operand.const (Value.int IntKind.i64 1)), type := 0, pos := "law.go:44", after := #[{ on := 7, ground := Ground.data }, { on := 3, ground := Ground.guard }], guard := some (3, false) }) (v := undef) rfl (by kernel_rfl) (by kernel_rfl) (by kernel_rfl) (fun _ _ _ h => h) (Or.inr ⟨by rfl, rfl⟩) (by assumption) ?_
    try simp only [Act.put, List.setIfInBounds_toArray, List.set_cons_zero, List.set_cons_succ]
    refine wpAnyH_take (i := 9) (oi := { dst := some 36, op := Op.load 24 (Operand.tmp 35), type := 24, pos := "law.go:44", after := #[{ on := 8, ground := Ground.data }, { on := 3, ground := Ground.guard }], guard := some (3, false) }) (v := undef) rfl (by kernel_rfl) (by kernel_rfl) (by kernel_rfl) (fun _ _ _ h => h) (Or.inr ⟨by rfl, rfl⟩) (by assumption) ?_
    try simp only [Act.put, List.setIfInBounds_toArray, List.set_cons_zero, List.set_cons_succ]
    refine wpAnyH_take (i := 10) (oi := { dst := some 37, op := Op.call { callee := Callee.value (Operand.func 24), args := #[Operand.tmp 33, Operand.tmp 36], argTypes := #[24, 24] }, type := 24, pos := "law.go:44", after := #[{ on := 6, ground := Ground.data }, { on := 9, ground := Ground.data }, { on := 3, ground := Ground.chain }, { on := 3, ground := Ground.guard }], guard := some (3, false) }) (v := undef) rfl (by kernel_rfl) (by kernel_rfl) (by kernel_rfl) (fun _ _ _ h => h) (Or.inr ⟨by rfl, rfl⟩) (by assumption) ?_
    try simp only [Act.put, List.setIfInBounds_toArray, List.set_cons_zero, List.set_cons_succ]
    refine wpAnyH_take (i := 11) (oi := { dst := some 38, op := Op.move (Operand.tmp 1), type := 29, pos := "law.go:44", after := #[{ on := 3, ground := Ground.guard }], guard := some (3, false) }) (v := undef) rfl (by kernel_rfl) (by kernel_rfl) (by kernel_rfl) (fun _ _ _ h => h) (Or.inr ⟨by rfl, rfl⟩) (by assumption) ?_
    try simp only [Act.put, List.setIfInBounds_toArray, List.set_cons_zero, List.set_cons_succ]
    refine wpAnyH_take (i := 12) (oi := { dst := some 39, op := Op.indexAddr 29 (Operand.tmp 38) (Operand.const (Value.int IntKind.i64 0)), type := 0, pos := "law.go:44", after := #[{ on := 11, ground := Ground.data }, { on := 3, ground := Ground.guard }], guard := some (3, false) }) (v := undef) rfl (by kernel_rfl) (by kernel_rfl) (by kernel_rfl) (fun _ _ _ h => h) (Or.inr ⟨by rfl, rfl⟩) (by assumption) ?_
    try simp only [Act.put, List.setIfInBounds_toArray, List.set_cons_zero, List.set_cons_succ]
    refine wpAnyH_take (i := 13) (oi := { dst := some 40, op := Op.load 24 (Operand.tmp 39), type := 24, pos := "law.go:44", after := #[{ on := 12, ground := Ground.data }, { on := 3, ground := Ground.guard }], guard := some (3, false) }) (v := undef) rfl (by kernel_rfl) (by kernel_rfl) (by kernel_rfl) (fun _ _ _ h => h) (Or.inr ⟨by rfl, rfl⟩) (by assumption) ?_
    try simp only [Act.put, List.setIfInBounds_toArray, List.set_cons_zero, List.set_cons_succ]
    refine wpAnyH_take (i := 14) (oi := { dst := some 41, op := Op.move (Operand.tmp 1), type := 29, pos := "law.go:44", after := #[{ on := 3, ground := Ground.guard }], guard := some (3, false) }) (v := undef) rfl (by kernel_rfl) (by kernel_rfl) (by kernel_rfl) (fun _ _ _ h => h) (Or.inr ⟨by rfl, rfl⟩) (by assumption) ?_
    try simp only [Act.put, List.setIfInBounds_toArray, List.set_cons_zero, List.set_cons_succ]
    refine wpAnyH_take (i := 15) (oi := { dst := some 42, op := Op.indexAddr 29 (Operand.tmp 41) (Operand.const (Value.int IntKind.i64 1)), type := 0, pos := "law.go:44", after := #[{ on := 14, ground := Ground.data }, { on := 3, ground := Ground.guard }], guard := some (3, false) }) (v := undef) rfl (by kernel_rfl) (by kernel_rfl) (by kernel_rfl) (fun _ _ _ h => h) (Or.inr ⟨by rfl, rfl⟩) (by assumption) ?_
    try simp only [Act.put, List.setIfInBounds_toArray, List.set_cons_zero, List.set_cons_succ]
    refine wpAnyH_take (i := 16) (oi := { dst := some 43, op := Op.load 24 (Operand.tmp 42), type := 24, pos := "law.go:44", after := #[{ on := 15, ground := Ground.data }, { on := 3, ground := Ground.guard }], guard := some (3, false) }) (v := undef) rfl (by kernel_rfl) (by kernel_rfl) (by kernel_rfl) (fun _ _ _ h => h) (Or.inr ⟨by rfl, rfl⟩) (by assumption) ?_
    try simp only [Act.put, List.setIfInBounds_toArray, List.set_cons_zero, List.set_cons_succ]
    refine wpAnyH_take (i := 17) (oi := { dst := some 44, op := Op.call { callee := Callee.value (Operand.func 25), args := #[Operand.tmp 40, Operand.tmp 43], argTypes := #[24, 24] }, type := 24, pos := "law.go:44", after := #[{ on := 13, ground := Ground.data }, { on := 16, ground := Ground.data }, { on := 10, ground := Ground.chain }, { on := 3, ground := Ground.guard }], guard := some (3, false) }) (v := undef) rfl (by kernel_rfl) (by kernel_rfl) (by kernel_rfl) (fun _ _ _ h => h) (Or.inr ⟨by rfl, rfl⟩) (by assumption) ?_
    try simp only [Act.put, List.setIfInBounds_toArray, List.set_cons_zero, List.set_cons_succ]
    refine wpAnyH_take (i := 18) (oi := { dst := some 45, op := Op.binOp BinOp.eql 24 (Operand.tmp 37) (Operand.tmp 44) 24, type := 4, pos := "law.go:44", after := #[{ on := 10, ground := Ground.data }, { on := 17, ground := Ground.data }, { on := 3, ground := Ground.guard }], guard := some (3, false) }) (v := undef) rfl (by kernel_rfl) (by kernel_rfl) (by kernel_rfl) (fun _ _ _ h => h) (Or.inr ⟨by rfl, rfl⟩) (by assumption) ?_
    try simp only [Act.put, List.setIfInBounds_toArray, List.set_cons_zero, List.set_cons_succ]
    refine wpAnyH_take (i := 19) (oi := { dst := some 46, op := Op.pick (Operand.tmp 30) (Operand.const (Value.bool true)) (Operand.tmp 45), type := 4, pos := "law.go:44", after := #[{ on := 3, ground := Ground.data }, { on := 18, ground := Ground.data }], guard := none }) (v := ?v19_4) rfl (by kernel_rfl) (by kernel_rfl) (by kernel_rfl) (fun _ _ _ h => h) (Or.inl ⟨by rfl, ?y19_4⟩) (by assumption) ?r19_4
    case y19_4 => intro w hSw; (try dsimp only at hSw); go_simp; try with_reducible rfl
    try simp only [Act.put, List.setIfInBounds_toArray, List.set_cons_zero, List.set_cons_succ]
    refine wpAnyH_take (i := 20) (oi := { dst := some 4, op := Op.assign (Operand.tmp 46), type := 4, pos := "law.go:44", after := #[{ on := 19, ground := Ground.data }, { on := 17, ground := Ground.chain }, { on := 0, ground := Ground.phase }, { on := 1, ground := Ground.phase }, { on := 2, ground := Ground.phase }, { on := 3, ground := Ground.phase }, { on := 4, ground := Ground.phase }, { on := 5, ground := Ground.phase }, { on := 6, ground := Ground.phase }, { on := 7, ground := Ground.phase }, { on := 8, ground := Ground.phase }, { on := 9, ground := Ground.phase }, { on := 10, ground := Ground.phase }, { on := 11, ground := Ground.phase }, { on := 12, ground := Ground.phase }, { on := 13, ground := Ground.phase }, { on := 14, ground := Ground.phase }, { on := 15, ground := Ground.phase }, { on := 16, ground := Ground.phase }, { on := 17, ground := Ground.phase }, { on := 18, ground := Ground.phase }, { on := 19, ground := Ground.phase }], guard := none }) (v := ?v20_5) rfl (by kernel_rfl) (by kernel_rfl) (by kernel_rfl) (fun _ _ _ h => h) (Or.inl ⟨by rfl, ?y20_5⟩) (by assumption) ?r20_5
    case y20_5 => intro w hSw; (try dsimp only at hSw); go_simp; try with_reducible rfl
    try simp only [Act.put, List.setIfInBounds_toArray, List.set_cons_zero, List.set_cons_succ]
    refine wpAnyH_done (by kernel_rfl) ?_ _
    refine NoPanic.normal ?_
    have hfin := Lib.hid hHeld.bel
    clear hHeld
    go_wp2
    go_ret
    exact ⟨rfl, hfin.out⟩
  · have e1 : decide (n < 2) = false := by simpa using h2
    have e2 : decide ((n : Int) < 2) = false := by simp; omega
    have hh := HU5.out.all
    obtain ⟨x, hx⟩ : ∃ x, ls[0]? = some x := ⟨_, List.getElem?_eq_getElem (by rw [HNn.out]; omega)⟩
    obtain ⟨y, hy⟩ : ∃ y, ls[1]? = some y := ⟨_, List.getElem?_eq_getElem (by rw [HNn.out]; omega)⟩
    obtain ⟨x32, -, g, o, rfl, p0⟩ := HU5.out.at_ 0 (by rw [HNn.out]; omega) x hx
    obtain ⟨y32, -, g1, o1, hg1, p1⟩ := HU5.out.at_ 1 (by rw [HNn.out]; omega) y hy
    cases hg1
    rw [show o + 0 * 32 = o by omega] at p0
    rw [show o + 1 * 32 = o + 32 by omega] at p1
    have hnode := fun w' => node_any x y x32 y32 w'
    have hqnode := fun w' => qnode_any x y x32 y32 w'
    have nn := nodeL_length x y
    have q3 := run_eql_sum (nodeL x y) (nodeL x y) nn nn
    simp only [beq_self_eq_true] at q3
    have i0 := info32 x x32
    have i1 := info32 y y32
    obtain ⟨ax, hax⟩ : ∃ ax, enc8 x = ax := ⟨_, rfl⟩
    obtain ⟨ay, hay⟩ : ∃ ay, enc8 y = ay := ⟨_, rfl⟩
    obtain ⟨an, han⟩ : ∃ an, enc8 (nodeL x y) = an := ⟨_, rfl⟩
    rw [hax] at p0 i0
    rw [hay] at p1 i1
    rw [han] at q3
    simp only [hax, hay, han] at hnode hqnode
    have HN := Lib.hid hnode
    have HQ := Lib.hid hqnode
    have hun := Try.underlying24
    have h0n : 0 < n := by omega
    have h1n : 1 < n := by omega
    have h0n' : (0 : Int) < (n : Int) := by omega
    have h1n' : (1 : Int) < (n : Int) := by omega
    clear hnode hqnode nn hax hay han hx hy hh x32 y32 HU5
    go_wp2_with fail
    refine wp_region_noPanic ?_
    refine wp_region_held_drew (S := (fun w' => Mine w.heap.size w w' ∧ w'.rangeAt g o ax ∧ w'.rangeAt g (o + 32) ay)) (by kernel_rfl) ?_ (fun hHeld => ?_)
    · exact ⟨⟨HB5.out.size, HB5.out.drew⟩, p0, p1⟩
    refine wpAnyH_take (i := 0) (oi := { dst := some 27, op := Op.move (Operand.tmp 1), type := 29, pos := "law.go:44", after := #[], guard := none }) (v := ?v0_6) rfl (by kernel_rfl) (by kernel_rfl) (by kernel_rfl) (fun _ _ _ h => h) (Or.inl ⟨by rfl, ?y0_6⟩) (by assumption) ?r0_6
    case y0_6 => intro w hSw; (try dsimp only at hSw); go_simp; try with_reducible rfl
    try simp only [Act.put, List.setIfInBounds_toArray, List.set_cons_zero, List.set_cons_succ]
    refine wpAnyH_take (i := 1) (oi := { dst := some 28, op := Op.call { callee := Callee.builtin Builtin.len, args := #[Operand.tmp 27], argTypes := #[29] }, type := 3, pos := "law.go:44", after := #[{ on := 0, ground := Ground.data }], guard := none }) (v := ?v1_7) rfl (by kernel_rfl) (by kernel_rfl) (by kernel_rfl) (fun _ _ _ h => h) (Or.inl ⟨by rfl, ?y1_7⟩) (by assumption) ?r1_7
    case y1_7 => intro w hSw; (try dsimp only at hSw); go_simp; try with_reducible rfl
    try simp only [Act.put, List.setIfInBounds_toArray, List.set_cons_zero, List.set_cons_succ]
    refine wpAnyH_take (i := 2) (oi := { dst := some 29, op := Op.binOp BinOp.lss 3 (Operand.tmp 28) (Operand.const (Value.int IntKind.i64 2)) 3, type := 4, pos := "law.go:44", after := #[{ on := 1, ground := Ground.data }], guard := none }) (v := ?v2_8) rfl (by kernel_rfl) (by kernel_rfl) (by kernel_rfl) (fun _ _ _ h => h) (Or.inl ⟨by rfl, ?y2_8⟩) (by assumption) ?r2_8
    case y2_8 => intro w hSw; (try dsimp only at hSw); go_simp; try with_reducible rfl
    try simp only [Act.put, List.setIfInBounds_toArray, List.set_cons_zero, List.set_cons_succ]
    refine wpAnyH_take (i := 3) (oi := { dst := some 30, op := Op.move (Operand.tmp 29), type := 4, pos := "law.go:44", after := #[{ on := 2, ground := Ground.data }], guard := none }) (v := ?v3_9) rfl (by kernel_rfl) (by kernel_rfl) (by kernel_rfl) (fun _ _ _ h => h) (Or.inl ⟨by rfl, ?y3_9⟩) (by assumption) ?r3_9
    case y3_9 => intro w hSw; (try dsimp only at hSw); go_simp; try with_reducible rfl
    try simp only [Act.put, List.setIfInBounds_toArray, List.set_cons_zero, List.set_cons_succ]
    refine wpAnyH_take (i := 4) (oi := { dst := some 31, op := Op.move (Operand.tmp 1), type := 29, pos := "law.go:44", after := #[{ on := 3, ground := Ground.guard }], guard := some (3, false) }) (v := ?v4_10) rfl (by kernel_rfl) (by kernel_rfl) (by kernel_rfl) (fun _ _ _ h => h) (Or.inl ⟨by rfl, ?y4_10⟩) (by assumption) ?r4_10
    case y4_10 => intro w hSw; (try dsimp only at hSw); go_simp; try with_reducible rfl
    try simp only [Act.put, List.setIfInBounds_toArray, List.set_cons_zero, List.set_cons_succ]
    refine wpAnyH_take (i := 5) (oi := { dst := some 32, op := Op.indexAddr 29 (Operand.tmp 31) (Operand.const (Value.int IntKind.i64 0)), type := 0, pos := "law.go:44", after := #[{ on := 4, ground := Ground.data }, { on := 3, ground := Ground.guard }], guard := some (3, false) }) (v := ?v5_11) rfl (by kernel_rfl) (by kernel_rfl) (by kernel_rfl) (fun _ _ _ h => h) (Or.inl ⟨by rfl, ?y5_11⟩) (by assumption) ?r5_11
    case y5_11 => intro w hSw; (try dsimp only at hSw); go_simp; try with_reducible rfl
    try simp only [Act.put, List.setIfInBounds_toArray, List.set_cons_zero, List.set_cons_succ]
    refine wpAnyH_take (i := 7) (oi := { dst := some 34, op := Op.move (Operand.tmp 1), type := 29, pos := "law.go:44", after := #[{ on := 3, ground := Ground.guard }], guard := some (3, false) }) (v := ?v7_12) rfl (by kernel_rfl) (by kernel_rfl) (by kernel_rfl) (fun _ _ _ h => h) (Or.inl ⟨by rfl, ?y7_12⟩) (by assumption) ?r7_12
    case y7_12 => intro w hSw; (try dsimp only at hSw); go_simp; try with_reducible rfl
    try simp only [Act.put, List.setIfInBounds_toArray, List.set_cons_zero, List.set_cons_succ]
    refine wpAnyH_take (i := 8) (oi := { dst := some 35, op := Op.indexAddr 29 (Operand.tmp 34) (Operand.const (Value.int IntKind.i64 1)), type := 0, pos := "law.go:44", after := #[{ on := 7, ground := Ground.data }, { on := 3, ground := Ground.guard }], guard := some (3, false) }) (v := ?v8_13) rfl (by kernel_rfl) (by kernel_rfl) (by kernel_rfl) (fun _ _ _ h => h) (Or.inl ⟨by rfl, ?y8_13⟩) (by assumption) ?r8_13
    case y8_13 => intro w hSw; (try dsimp only at hSw); go_simp; try with_reducible rfl
    try simp only [Act.put, List.setIfInBounds_toArray, List.set_cons_zero, List.set_cons_succ]
    refine wpAnyH_take (i := 6) (oi := { dst := some 33, op := Op.load 24 (Operand.tmp 32), type := 24, pos := "law.go:44", after := #[{ on := 5, ground := Ground.data }, { on := 3, ground := Ground.guard }], guard := some (3, false) }) (v := _) rfl (by kernel_rfl) (by kernel_rfl) (by kernel_rfl) (fun _ _ _ h => h) (yieldsIf_load_mid (by rfl) _ _ rfl _ _ rfl _ _ (by intro w hSw; (try dsimp only at hSw); go_split_ands; assumption) (by assumption) rfl (by first | assumption | (simp only [*]; done))) (by assumption) ?_
    try simp only [Act.put, List.setIfInBounds_toArray, List.set_cons_zero, List.set_cons_succ]
    refine wpAnyH_take (i := 9) (oi := { dst := some 36, op := Op.load 24 (Operand.tmp 35), type := 24, pos := "law.go:44", after := #[{ on := 8, ground := Ground.data }, { on := 3, ground := Ground.guard }], guard := some (3, false) }) (v := _) rfl (by kernel_rfl) (by kernel_rfl) (by kernel_rfl) (fun _ _ _ h => h) (yieldsIf_load_mid (by rfl) _ _ rfl _ _ rfl _ _ (by intro w hSw; (try dsimp only at hSw); go_split_ands; assumption) (by assumption) rfl (by first | assumption | (simp only [*]; done))) (by assumption) ?_
    try simp only [Act.put, List.setIfInBounds_toArray, List.set_cons_zero, List.set_cons_succ]
    refine wpAnyH_take (i := 11) (oi := { dst := some 38, op := Op.move (Operand.tmp 1), type := 29, pos := "law.go:44", after := #[{ on := 3, ground := Ground.guard }], guard := some (3, false) }) (v := ?v11_14) rfl (by kernel_rfl) (by kernel_rfl) (by kernel_rfl) (fun _ _ _ h => h) (Or.inl ⟨by rfl, ?y11_14⟩) (by assumption) ?r11_14
    case y11_14 => intro w hSw; (try dsimp only at hSw); go_simp; try with_reducible rfl
    try simp only [Act.put, List.setIfInBounds_toArray, List.set_cons_zero, List.set_cons_succ]
    refine wpAnyH_take (i := 12) (oi := { dst := some 39, op := Op.indexAddr 29 (Operand.tmp 38) (Operand.const (Value.int IntKind.i64 0)), type := 0, pos := "law.go:44", after := #[{ on := 11, ground := Ground.data }, { on := 3, ground := Ground.guard }], guard := some (3, false) }) (v := ?v12_15) rfl (by kernel_rfl) (by kernel_rfl) (by kernel_rfl) (fun _ _ _ h => h) (Or.inl ⟨by rfl, ?y12_15⟩) (by assumption) ?r12_15
    case y12_15 => intro w hSw; (try dsimp only at hSw); go_simp; try with_reducible rfl
    try simp only [Act.put, List.setIfInBounds_toArray, List.set_cons_zero, List.set_cons_succ]
    refine wpAnyH_take (i := 14) (oi := { dst := some 41, op := Op.move (Operand.tmp 1), type := 29, pos := "law.go:44", after := #[{ on := 3, ground := Ground.guard }], guard := some (3, false) }) (v := ?v14_16) rfl (by kernel_rfl) (by kernel_rfl) (by kernel_rfl) (fun _ _ _ h => h) (Or.inl ⟨by rfl, ?y14_16⟩) (by assumption) ?r14_16
    case y14_16 => intro w hSw; (try dsimp only at hSw); go_simp; try with_reducible rfl
    try simp only [Act.put, List.setIfInBounds_toArray, List.set_cons_zero, List.set_cons_succ]
    refine wpAnyH_take (i := 15) (oi := { dst := some 42, op := Op.indexAddr 29 (Operand.tmp 41) (Operand.const (Value.int IntKind.i64 1)), type := 0, pos := "law.go:44", after := #[{ on := 14, ground := Ground.data }, { on := 3, ground := Ground.guard }], guard := some (3, false) }) (v := ?v15_17) rfl (by kernel_rfl) (by kernel_rfl) (by kernel_rfl) (fun _ _ _ h => h) (Or.inl ⟨by rfl, ?y15_17⟩) (by assumption) ?r15_17
    case y15_17 => intro w hSw; (try dsimp only at hSw); go_simp; try with_reducible rfl
    try simp only [Act.put, List.setIfInBounds_toArray, List.set_cons_zero, List.set_cons_succ]
    refine wpAnyH_take (i := 13) (oi := { dst := some 40, op := Op.load 24 (Operand.tmp 39), type := 24, pos := "law.go:44", after := #[{ on := 12, ground := Ground.data }, { on := 3, ground := Ground.guard }], guard := some (3, false) }) (v := _) rfl (by kernel_rfl) (by kernel_rfl) (by kernel_rfl) (fun _ _ _ h => h) (yieldsIf_load_mid (by rfl) _ _ rfl _ _ rfl _ _ (by intro w hSw; (try dsimp only at hSw); go_split_ands; assumption) (by assumption) rfl (by first | assumption | (simp only [*]; done))) (by assumption) ?_
    try simp only [Act.put, List.setIfInBounds_toArray, List.set_cons_zero, List.set_cons_succ]
    refine wpAnyH_take (i := 16) (oi := { dst := some 43, op := Op.load 24 (Operand.tmp 42), type := 24, pos := "law.go:44", after := #[{ on := 15, ground := Ground.data }, { on := 3, ground := Ground.guard }], guard := some (3, false) }) (v := _) rfl (by kernel_rfl) (by kernel_rfl) (by kernel_rfl) (fun _ _ _ h => h) (yieldsIf_load_mid (by rfl) _ _ rfl _ _ rfl _ _ (by intro w hSw; (try dsimp only at hSw); go_split_ands; assumption) (by assumption) rfl (by first | assumption | (simp only [*]; done))) (by assumption) ?_
    try simp only [Act.put, List.setIfInBounds_toArray, List.set_cons_zero, List.set_cons_succ]
    refine wpAnyH_ready (rs := [10]) (by kernel_rfl) (by simp) (AllReadyH.cons (o := { dst := some 37, op := Op.call { callee := Callee.value (Operand.func 24), args := #[Operand.tmp 33, Operand.tmp 36], argTypes := #[24, 24] }, type := 24, pos := "law.go:44", after := #[{ on := 6, ground := Ground.data }, { on := 9, ground := Ground.data }, { on := 3, ground := Ground.chain }, { on := 3, ground := Ground.guard }], guard := some (3, false) }) rfl (fun K hK => ?_) AllReadyH.nil)
    go_simp
    refine (HN.out _).mono ?_; rintro e w6 ⟨rfl, hb6⟩
    go_wp2_with fail
    refine hK.out _ _ ?_ (fun hHeld => ?_)
    · (try dsimp only); (go_split_ands; (repeat' apply And.intro) <;> first | assumption | exact Mine.call (by assumption) (by assumption) | exact Mine.alloc (by assumption) _ | exact Mine.setCells (by assumption) _ _ _ (by omega) | exact Mine.callN (by assumption) (by assumption) (by omega) | exact Row.belowN (by assumption) (by assumption) (by omega) | exact there_belowN (by assumption) (by assumption) (by omega) | exact rangeAt_below (by assumption) (by assumption) | exact World.rangeAt_alloc (by assumption) _ | exact there_below (by assumption) (by assumption) | exact World.there_alloc (by assumption) _ | exact World.there_setCells (by assumption) _ _ _ | exact Row.belowS (by assumption) (by assumption) | exact Row.alloc (by assumption) _ | exact Row.setCells (by assumption) _ _ (by omega) | exact HS.below (by assumption) (by assumption) | exact HS.alloc (by assumption) _)
    clear hK K
    try simp only [Act.put, List.setIfInBounds_toArray, List.set_cons_zero, List.set_cons_succ]
    refine wpAnyH_ready (rs := [17]) (by kernel_rfl) (by simp) (AllReadyH.cons (o := { dst := some 44, op := Op.call { callee := Callee.value (Operand.func 25), args := #[Operand.tmp 40, Operand.tmp 43], argTypes := #[24, 24] }, type := 24, pos := "law.go:44", after := #[{ on := 13, ground := Ground.data }, { on := 16, ground := Ground.data }, { on := 10, ground := Ground.chain }, { on := 3, ground := Ground.guard }], guard := some (3, false) }) rfl (fun K hK => ?_) AllReadyH.nil)
    go_simp
    refine (HQ.out _).mono ?_; rintro e w7 ⟨rfl, hb7⟩
    go_wp2_with fail
    refine hK.out _ _ ?_ (fun hHeld => ?_)
    · (try dsimp only); (go_split_ands; (repeat' apply And.intro) <;> first | assumption | exact Mine.call (by assumption) (by assumption) | exact Mine.alloc (by assumption) _ | exact Mine.setCells (by assumption) _ _ _ (by omega) | exact Mine.callN (by assumption) (by assumption) (by omega) | exact Row.belowN (by assumption) (by assumption) (by omega) | exact there_belowN (by assumption) (by assumption) (by omega) | exact rangeAt_below (by assumption) (by assumption) | exact World.rangeAt_alloc (by assumption) _ | exact there_below (by assumption) (by assumption) | exact World.there_alloc (by assumption) _ | exact World.there_setCells (by assumption) _ _ _ | exact Row.belowS (by assumption) (by assumption) | exact Row.alloc (by assumption) _ | exact Row.setCells (by assumption) _ _ (by omega) | exact HS.below (by assumption) (by assumption) | exact HS.alloc (by assumption) _)
    clear hK K
    try simp only [Act.put, List.setIfInBounds_toArray, List.set_cons_zero, List.set_cons_succ]
    refine wpAnyH_take (i := 18) (oi := { dst := some 45, op := Op.binOp BinOp.eql 24 (Operand.tmp 37) (Operand.tmp 44) 24, type := 4, pos := "law.go:44", after := #[{ on := 10, ground := Ground.data }, { on := 17, ground := Ground.data }, { on := 3, ground := Ground.guard }], guard := some (3, false) }) (v := ?v18_18) rfl (by kernel_rfl) (by kernel_rfl) (by kernel_rfl) (fun _ _ _ h => h) (Or.inl ⟨by rfl, ?y18_18⟩) (by assumption) ?r18_18
    case y18_18 => intro w hSw; (try dsimp only at hSw); go_simp; try with_reducible rfl
    try simp only [Act.put, List.setIfInBounds_toArray, List.set_cons_zero, List.set_cons_succ]
    refine wpAnyH_take (i := 19) (oi := { dst := some 46, op := Op.pick (Operand.tmp 30) (Operand.const (Value.bool true)) (Operand.tmp 45), type := 4, pos := "law.go:44", after := #[{ on := 3, ground := Ground.data }, { on := 18, ground := Ground.data }], guard := none }) (v := ?v19_19) rfl (by kernel_rfl) (by kernel_rfl) (by kernel_rfl) (fun _ _ _ h => h) (Or.inl ⟨by rfl, ?y19_19⟩) (by assumption) ?r19_19
    case y19_19 => intro w hSw; (try dsimp only at hSw); go_simp; try with_reducible rfl
    try simp only [Act.put, List.setIfInBounds_toArray, List.set_cons_zero, List.set_cons_succ]
    refine wpAnyH_take (i := 20) (oi := { dst := some 4, op := Op.assign (Operand.tmp 46), type := 4, pos := "law.go:44", after := #[{ on := 19, ground := Ground.data }, { on := 17, ground := Ground.chain }, { on := 0, ground := Ground.phase }, { on := 1, ground := Ground.phase }, { on := 2, ground := Ground.phase }, { on := 3, ground := Ground.phase }, { on := 4, ground := Ground.phase }, { on := 5, ground := Ground.phase }, { on := 6, ground := Ground.phase }, { on := 7, ground := Ground.phase }, { on := 8, ground := Ground.phase }, { on := 9, ground := Ground.phase }, { on := 10, ground := Ground.phase }, { on := 11, ground := Ground.phase }, { on := 12, ground := Ground.phase }, { on := 13, ground := Ground.phase }, { on := 14, ground := Ground.phase }, { on := 15, ground := Ground.phase }, { on := 16, ground := Ground.phase }, { on := 17, ground := Ground.phase }, { on := 18, ground := Ground.phase }, { on := 19, ground := Ground.phase }], guard := none }) (v := ?v20_20) rfl (by kernel_rfl) (by kernel_rfl) (by kernel_rfl) (fun _ _ _ h => h) (Or.inl ⟨by rfl, ?y20_20⟩) (by assumption) ?r20_20
    case y20_20 => intro w hSw; (try dsimp only at hSw); go_simp; try with_reducible rfl
    try simp only [Act.put, List.setIfInBounds_toArray, List.set_cons_zero, List.set_cons_succ]
    refine wpAnyH_done (by kernel_rfl) ?_ _
    refine NoPanic.normal ?_
    have hfin := Lib.hid hHeld.1.bel
    clear hHeld p0 p1 i0 i1 q1 q2 q3 hun
    go_wp2
    go_ret
    exact ⟨rfl, hfin.out⟩
theorem merkleRoots_walk (v : Value) (b : List UInt8) (u : Value) (ls : List (List UInt8)) (w : World) (hv : SB w v b) (hu : HS w u ls) :
    Calls Try.prog 5 #[v, u] w fun e w' => e = .returned (.bool true) ∧ Below w.heap.size w w' := by
  by_cases k : 500 < b.length ∨ 20 < ls.length
  · exact roots_many v b u ls w hv hu k
  · exact roots_few v b u ls w hv hu (by omega) (by omega)

set_option maxHeartbeats 4000000 in
set_option maxRecDepth 100000 in
theorem merkleProofs_walk (u : Value) (ls : List (List UInt8)) (i : Int) (w : World) (hu : HS w u ls) (hi : (Lit.int .i64 i).wf = true) :
    Calls Try.prog 6 #[u, .int .i64 i] w fun e w' => e = .returned (.bool true) ∧ Below w.heap.size w w' := by
  have hf := fun w' hb => few_any _ ls w' (hu.below (W' := w') hb)
  by_cases kl : ls.length ≤ 20
  · rw [show decide (ls.length ≤ 20) = true by simp; omega] at hf
    have hp := fun w' hb => proof_any _ ls i w' (hu.below (W' := w') hb) (by omega)
    have hq := fun w' hb => qproof_any _ ls i w' (hu.below (W' := w') hb) (by omega)
    obtain ⟨pl, hpl⟩ : ∃ pl, proofW ls i = pl := ⟨_, rfl⟩
    obtain ⟨pe, hpe⟩ : ∃ pe, proofE ls i = pe := ⟨_, rfl⟩
    simp only [hpl, hpe] at hp hq
    have HP := Lib.hid hp
    have HQ := Lib.hid hq
    have HF := Lib.hid hf
    clear hf hp hq hpl hpe hu kl hi
    go_enter Try.func6, Try.ntmps6
    go_wp2_with fail
    refine (awake05_any _).mono ?_
    rintro e w1 ⟨rfl, hb1⟩
    have HB1 := Lib.hid hb1
    clear hb1
    go_wp2_with fail
    refine (HF.out _ HB1.out).mono ?_
    rintro e w2 ⟨rfl, rfl⟩
    go_wp2_with fail
    refine (HP.out _ HB1.out).mono ?_
    rintro e w2 ⟨p, rfl, ho2, hb2⟩
    have HB2 := Lib.hid (below_on hb2 HB1.out)
    have HO2 := Lib.hid ho2.reads
    clear hb2 HB1 ho2
    go_wp2_with fail
    refine (HQ.out _ HB2.out).mono ?_
    rintro e w3 ⟨q, rfl, ho3, hb3⟩
    have HB3 := Lib.hid (below_on hb3 HB2.out)
    have HO3 := Lib.hid ho3.reads
    have HO2' := Lib.hid (HO2.out.below hb3)
    clear hb3 HB2 ho3 HO2
    go_wp2_with fail
    refine (same_eq _ _ pl _ HO2'.out HO3.out).mono ?_
    rintro e w4 ⟨rfl, hb4⟩
    have HB4 := Lib.hid (below_on hb4 HB3.out)
    clear hb4 HB3
    go_wp2
    go_ret
    exact ⟨rfl, HB4.out⟩
  · rw [show decide (ls.length ≤ 20) = false by simp; omega] at hf
    have HF := Lib.hid hf
    clear hf hu kl hi
    go_enter Try.func6, Try.ntmps6
    go_wp2_with fail
    refine (awake05_any _).mono ?_
    rintro e w1 ⟨rfl, hb1⟩
    have HB1 := Lib.hid hb1
    clear hb1
    go_wp2_with fail
    refine (HF.out _ HB1.out).mono ?_
    rintro e w2 ⟨rfl, rfl⟩
    go_wp2
    go_ret
    exact ⟨rfl, HB1.out⟩

/-! ## How a slice of sums reads -/
open Go.ChangeShapes Go.WideShapes Go.ChangeAt in
set_option maxRecDepth 100000 in
theorem Open.sums {H : Type} {enc : TypeId × Value → H} {W : World} {b0 : Nat} {v : Value} {d : DataW H} {p : List MemPlace} (hv : Value.okWide Try.prog W .any b0 29 v)
    (h : DataW.Trod enc Try.prog W 0 (fun _ => true) true 29 v d p) : ∃ ls, HS W v ls := by
  obtain ⟨a0, len0, cap0, rfl⟩ := okWide_slice Try.underlying29 hv
  obtain ⟨fuel, hf⟩ := h
  rcases Deep.open_slice Try.underlying29 hf with ⟨hcs, _⟩ | ⟨a, len, cap, m, n, D, Pl, hcs, _, hl, hm, hmm, _, hx⟩
  · simp [Value.cells] at hcs
    obtain ⟨rfl, rfl, rfl⟩ := hcs
    exact ⟨[], HS_nil W⟩
  · simp [Value.cells] at hcs
    obtain ⟨rfl, rfl, rfl⟩ := hcs
    have hm' : m = cap0 := by simpa using hmm
    have hcell : Try.prog.cellsOf 24 = 32 := by kernel_rfl
    rw [hcell] at hx
    obtain ⟨f, hff⟩ := Deep.choose_lt (α := List UInt8) (n := len0) (p := fun i l => l.length = 32 ∧ ∀ j, j < 32 → W.cell? ((a.add (i * 32)).add j) = (enc8 l)[j]?) (fun i hi => by
      obtain ⟨cs', hc, ht⟩ := hx i (by omega)
      obtain ⟨l, rfl, hl32⟩ := Open.cells_sum ht
      exact ⟨l, hl32, fun j hj => (World.cells?_some hc).2.2 j hj⟩)
    have hlen : ((List.range len0).map f).length = len0 := by simp
    refine ⟨(List.range len0).map f, ?_, .inr ⟨a, cap0, by rw [hlen], ⟨by rw [hlen]; exact hl, by unfold maxLen at hm; omega⟩, fun h0 => ?_⟩⟩
    · intro x hx
      obtain ⟨i, hi, rfl⟩ := List.mem_map.1 hx
      exact (hff i (List.mem_range.1 hi)).1
    · rw [hlen] at h0
      obtain ⟨b, off, spot⟩ := a
      have hc0 := (hff 0 h0).2 0 (by omega)
      have hspot : spot = none := by
        have h1 := enc8_get (f 0) 0 (by rw [(hff 0 h0).1]; omega)
        rw [h1] at hc0
        simpa [Addr.add] using World.cell?_spot hc0
      subst hspot
      refine ⟨b, off, rfl, fun i hi => ?_⟩
      rw [hlen] at hi
      have e : ((List.range len0).map f)[i]?.getD [] = f i := by simp [hi]
      rw [e]
      intro j v hj
      have hj32 : j < 32 := by
        have := (List.getElem?_eq_some_iff.1 hj).1
        rw [enc8_len, (hff i hi).1] at this
        exact this
      have := (hff i hi).2 j hj32
      rw [Deep.add_add, Addr.add_mid, ← Nat.add_assoc] at this
      rw [this]; exact hj
end Go.Proofs.Ytkipnhhdlohnfaa

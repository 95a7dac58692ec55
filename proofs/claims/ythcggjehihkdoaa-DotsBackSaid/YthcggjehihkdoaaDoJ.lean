/- DotsStuffs, DotsScans, DotsBack, DotsCut. -/
import Derived.RangeFuncNested
import Derived.RangeFuncBound
import Derived.RangeFuncCalls
import Derived.RangeFuncLeaves
import Derived.Shelf.Abstract
import Derived.Shelf.RegionOpen
import Derived.WalkKit
import Derived.OwnWalkIn
import Derived.TacticsInMore
import Derived.LoopNIn
import Derived.LoopIn
import Derived.Outline
import Derived.Lib.Hide
import Derived.Lib.SliceRun
import Derived.IntWalk
import Derived.WalkLawsBesides
import Derived.WalkSpells
import Derived.Laws.BitsAllLaws
import Derived.Lib.ConvBytes
import Derived.Maps.AppendAt
import Derived.Lib.AppendStr
import Derived.Lib.SlBytesConst
import Derived.Laws.AppendOwnNone
import Derived.Laws.OwnMore
import Derived.Laws.BytesArg
import Derived.Deep.RegionHeld3
import Derived.BigQuiet
import Derived.Deep.RegionLaw
import Derived.Deep.QuietTactic
import Derived.Lib.OthersKept
import Derived.Test.YthcggjehihkdoaaProg
import Derived.Deep.DeepFit
import Derived.Test.YthcggjehihkdoaaDoI
set_option linter.unusedVariables false
set_option linter.unusedSimpArgs false
namespace Go.Proofs.Ythcggjehihkdoaa
open Go Go.RowKit Go.Shelf

theorem stuffL_len (l : List UInt8) : (stuffL l).length ≤ 2 * l.length + 7 := by
  rw [← preS_all, List.length_append]
  have := preS_len (closeL l) (lns (closeL l)).length
  have := closeL_len l
  simp
  omega
set_option maxRecDepth 100000 in
set_option maxHeartbeats 2000000 in
theorem dotsStuffs_walk (v : Value) (l : List UInt8) (w : World) (hml : ML w) (h : SB w v l) :
    Calls Try.prog 4 #[v] w fun e w' => e = .returned (.bool true) ∧ Below w.heap.size w w' := by
  obtain ⟨A, c, rfl, -, -, -⟩ := h.form
  obtain ⟨L, hL⟩ : ∃ L, l.length = L := ⟨_, rfl⟩
  have HL := Lib.hid hL
  have HS := Lib.hid h
  rw [hL] at HS ⊢
  have haw := awake09_any w hml
  have HAW := Lib.hid haw
  have HML := Lib.hid hml
  clear h hL haw hml
  by_cases hlen : L ≤ 2000
  · have q0 : decide ((2000 : Int) < (L : Int)) = false := decide_eq_false (by omega)
    have q0' : decide (2000 < L) = false := decide_eq_false (by omega)
    go_enter Try.func4, Try.ntmps4
    go_wp2_with fail
    refine HAW.out.mono ?_
    rintro e w1 ⟨rfl, hb1⟩
    have HB1 := Lib.hid hb1
    have hs1 := HS.out.below hb1
    have hm1 := HML.out.below hb1
    clear hb1
    obtain ⟨cl, hcl⟩ : ∃ b, stuffL l = b := ⟨_, rfl⟩
    have hc1 := fun W' (hm : ML W') (hs : SB W' (.slice A L c) l) => stuff_any _ l W' (by have := HL.out; omega) hm hs
    have hc2 := fun W' (hs : SB W' (.slice A L c) l) => qstuff_any _ l W' (by have := HL.out; omega) hs
    simp only [hcl] at hc1 hc2
    have C1 := Lib.hid hc1
    have C2 := Lib.hid hc2
    have HM1 := Lib.hid hm1
    clear hc1 hc2 hcl hm1
    obtain ⟨B1, hB1⟩ : ∃ B, w1.heap.size = B := ⟨_, rfl⟩
    go_wp2_with fail
    refine wp_region_noPanic ?_
    refine wp_region_held_drew (S := (fun w' => Mine B1 w1 w' ∧ SB w' (.slice A L c) l)) (by kernel_rfl) ?_ (fun hHeld => ?_)
    · exact ⟨⟨by rw [← hB1]; exact Nat.le_refl _, (Below.refl _ _).drew⟩, hs1⟩
    refine wpAnyH_take (i := 0) (oi := { dst := some 5, op := Op.move (Operand.tmp 0), type := 22, pos := "law.go:27", after := #[], guard := none }) (v := ?v0_0) rfl (by kernel_rfl) (by kernel_rfl) (by kernel_rfl) (fun _ _ _ h => h) (Or.inl ⟨by rfl, ?y0_0⟩) (by assumption) ?r0_0
    case y0_0 => intro w hSw; (try dsimp only at hSw); go_simp; try with_reducible rfl
    try simp only [Act.put, List.setIfInBounds_toArray, List.set_cons_zero, List.set_cons_succ]
    refine wpAnyH_take (i := 1) (oi := { dst := some 6, op := Op.call { callee := Callee.builtin Builtin.len, args := #[Operand.tmp 5], argTypes := #[22] }, type := 3, pos := "law.go:27", after := #[{ on := 0, ground := Ground.data }], guard := none }) (v := ?v1_1) rfl (by kernel_rfl) (by kernel_rfl) (by kernel_rfl) (fun _ _ _ h => h) (Or.inl ⟨by rfl, ?y1_1⟩) (by assumption) ?r1_1
    case y1_1 => intro w hSw; (try dsimp only at hSw); go_simp; try with_reducible rfl
    try simp only [Act.put, List.setIfInBounds_toArray, List.set_cons_zero, List.set_cons_succ]
    refine wpAnyH_take (i := 2) (oi := { dst := some 7, op := Op.binOp BinOp.gtr 3 (Operand.tmp 6) (Operand.const (Value.int IntKind.i64 2000)) 3, type := 4, pos := "law.go:27", after := #[{ on := 1, ground := Ground.data }], guard := none }) (v := ?v2_2) rfl (by kernel_rfl) (by kernel_rfl) (by kernel_rfl) (fun _ _ _ h => h) (Or.inl ⟨by rfl, ?y2_2⟩) (by assumption) ?r2_2
    case y2_2 => intro w hSw; (try dsimp only at hSw); go_simp; try with_reducible rfl
    try simp only [Act.put, List.setIfInBounds_toArray, List.set_cons_zero, List.set_cons_succ]
    refine wpAnyH_take (i := 3) (oi := { dst := some 8, op := Op.move (Operand.tmp 7), type := 4, pos := "law.go:27", after := #[{ on := 2, ground := Ground.data }], guard := none }) (v := ?v3_3) rfl (by kernel_rfl) (by kernel_rfl) (by kernel_rfl) (fun _ _ _ h => h) (Or.inl ⟨by rfl, ?y3_3⟩) (by assumption) ?r3_3
    case y3_3 => intro w hSw; (try dsimp only at hSw); go_simp; try with_reducible rfl
    try simp only [Act.put, List.setIfInBounds_toArray, List.set_cons_zero, List.set_cons_succ]
    refine wpAnyH_take (i := 4) (oi := { dst := some 9, op := Op.move (Operand.tmp 0), type := 22, pos := "law.go:27", after := #[{ on := 3, ground := Ground.guard }], guard := some (3, false) }) (v := ?v4_4) rfl (by kernel_rfl) (by kernel_rfl) (by kernel_rfl) (fun _ _ _ h => h) (Or.inl ⟨by rfl, ?y4_4⟩) (by assumption) ?r4_4
    case y4_4 => intro w hSw; (try dsimp only at hSw); go_simp; try with_reducible rfl
    try simp only [Act.put, List.setIfInBounds_toArray, List.set_cons_zero, List.set_cons_succ]
    refine wpAnyH_take (i := 7) (oi := { dst := some 12, op := Op.move (Operand.tmp 0), type := 22, pos := "law.go:27", after := #[{ on := 3, ground := Ground.guard }], guard := some (3, false) }) (v := ?v7_5) rfl (by kernel_rfl) (by kernel_rfl) (by kernel_rfl) (fun _ _ _ h => h) (Or.inl ⟨by rfl, ?y7_5⟩) (by assumption) ?r7_5
    case y7_5 => intro w hSw; (try dsimp only at hSw); go_simp; try with_reducible rfl
    try simp only [Act.put, List.setIfInBounds_toArray, List.set_cons_zero, List.set_cons_succ]
    refine wpAnyH_ready (rs := [5]) (by kernel_rfl) (by simp) (AllReadyH.cons (o := { dst := some 10, op := Op.call { callee := Callee.value (Operand.func 18), args := #[Operand.tmp 9], argTypes := #[22] }, type := 22, pos := "law.go:27", after := #[{ on := 4, ground := Ground.data }, { on := 3, ground := Ground.chain }, { on := 3, ground := Ground.guard }], guard := some (3, false) }) rfl (fun K hK => ?_) AllReadyH.nil)
    go_simp
    refine (C1.out _ (HM1.out.below (by rw [hB1]; exact hHeld.1.bel)) hHeld.2).mono ?_; rintro e w4 ⟨u1, rfl, ho1, hb4⟩; have hsb1 := ho1.reads
    go_wp2_with fail
    refine hK.out _ _ ?_ (fun hHeld => ?_)
    · (try dsimp only); (go_split_ands; (repeat' apply And.intro) <;> first | assumption | exact Mine.call (by assumption) (by assumption) | exact Mine.alloc (by assumption) _ | exact Mine.setCells (by assumption) _ _ _ (by omega) | exact Mine.callN (by assumption) (by assumption) (by omega) | exact Row.belowN (by assumption) (by assumption) (by omega) | exact there_belowN (by assumption) (by assumption) (by omega) | exact rangeAt_below (by assumption) (by assumption) | exact World.rangeAt_alloc (by assumption) _ | exact World.rangeAt_setCells_apart (by assumption) _ _ _ (Or.inl (by omega)) | exact there_below (by assumption) (by assumption) | exact World.there_alloc (by assumption) _ | exact World.there_setCells (by assumption) _ _ _ | exact Row.belowS (by assumption) (by assumption) | exact Row.alloc (by assumption) _ | exact Row.setCells (by assumption) _ _ (by omega) | exact HS.below (by assumption) (by assumption) | exact SB.below (by assumption) (by assumption) | exact HS.alloc (by assumption) _ | exact Box.call (by assumption) (by assumption) | exact Box.alloc (by assumption) _ | exact Box.put (by assumption) _ (by assumption) | exact cell_below (by assumption) (by assumption) | exact Lib.cell?_alloc_some _ (by assumption))
    clear hK K
    try simp only [Act.put, List.setIfInBounds_toArray, List.set_cons_zero, List.set_cons_succ]
    refine wpAnyH_with (E := fun w' => (SB w' u1 cl)) (by (try dsimp only); exact hsb1) hHeld (fun hHeld => ?_)
    try dsimp only at hHeld
    refine wpAnyH_take (i := 6) (oi := { dst := some 11, op := Op.convert 22 9 (Operand.tmp 10), type := 9, pos := "law.go:27", after := #[{ on := 5, ground := Ground.data }, { on := 3, ground := Ground.guard }], guard := some (3, false) }) (v := ?v6_6) rfl (by kernel_rfl) (by kernel_rfl) (by kernel_rfl) (fun _ _ _ h => h) (Or.inl ⟨by rfl, ?y6_6⟩) (by assumption) ?r6_6
    case y6_6 => intro w hSw; (try dsimp only at hSw); have hcv := hSw.2.str; go_simp; try with_reducible rfl
    try simp only [Act.put, List.setIfInBounds_toArray, List.set_cons_zero, List.set_cons_succ]
    refine wpAnyH_ready (rs := [8]) (by kernel_rfl) (by simp) (AllReadyH.cons (o := { dst := some 13, op := Op.call { callee := Callee.value (Operand.func 19), args := #[Operand.tmp 12], argTypes := #[22] }, type := 22, pos := "law.go:27", after := #[{ on := 7, ground := Ground.data }, { on := 5, ground := Ground.chain }, { on := 3, ground := Ground.guard }], guard := some (3, false) }) rfl (fun K hK => ?_) AllReadyH.nil)
    go_simp
    refine (C2.out _ hHeld.1.2).mono ?_; rintro e w5 ⟨u2, rfl, ho2, hb5⟩; have hsb2 := ho2.reads
    go_wp2_with fail
    refine hK.out _ _ ?_ (fun hHeld => ?_)
    · (try dsimp only); (go_split_ands; (repeat' apply And.intro) <;> first | assumption | exact Mine.call (by assumption) (by assumption) | exact Mine.alloc (by assumption) _ | exact Mine.setCells (by assumption) _ _ _ (by omega) | exact Mine.callN (by assumption) (by assumption) (by omega) | exact Row.belowN (by assumption) (by assumption) (by omega) | exact there_belowN (by assumption) (by assumption) (by omega) | exact rangeAt_below (by assumption) (by assumption) | exact World.rangeAt_alloc (by assumption) _ | exact World.rangeAt_setCells_apart (by assumption) _ _ _ (Or.inl (by omega)) | exact there_below (by assumption) (by assumption) | exact World.there_alloc (by assumption) _ | exact World.there_setCells (by assumption) _ _ _ | exact Row.belowS (by assumption) (by assumption) | exact Row.alloc (by assumption) _ | exact Row.setCells (by assumption) _ _ (by omega) | exact HS.below (by assumption) (by assumption) | exact SB.below (by assumption) (by assumption) | exact HS.alloc (by assumption) _ | exact Box.call (by assumption) (by assumption) | exact Box.alloc (by assumption) _ | exact Box.put (by assumption) _ (by assumption) | exact cell_below (by assumption) (by assumption) | exact Lib.cell?_alloc_some _ (by assumption))
    clear hK K
    try simp only [Act.put, List.setIfInBounds_toArray, List.set_cons_zero, List.set_cons_succ]
    refine wpAnyH_with (E := fun w' => (SB w' u2 cl)) (by (try dsimp only); exact hsb2) hHeld (fun hHeld => ?_)
    try dsimp only at hHeld
    refine wpAnyH_take (i := 9) (oi := { dst := some 14, op := Op.convert 22 9 (Operand.tmp 13), type := 9, pos := "law.go:27", after := #[{ on := 8, ground := Ground.data }, { on := 3, ground := Ground.guard }], guard := some (3, false) }) (v := ?v9_7) rfl (by kernel_rfl) (by kernel_rfl) (by kernel_rfl) (fun _ _ _ h => h) (Or.inl ⟨by rfl, ?y9_7⟩) (by assumption) ?r9_7
    case y9_7 => intro w hSw; (try dsimp only at hSw); have hcv := hSw.2.str; go_simp; try with_reducible rfl
    try simp only [Act.put, List.setIfInBounds_toArray, List.set_cons_zero, List.set_cons_succ]
    refine wpAnyH_take (i := 10) (oi := { dst := some 15, op := Op.binOp BinOp.eql 9 (Operand.tmp 11) (Operand.tmp 14) 9, type := 4, pos := "law.go:27", after := #[{ on := 6, ground := Ground.data }, { on := 9, ground := Ground.data }, { on := 3, ground := Ground.guard }], guard := some (3, false) }) (v := ?v10_8) rfl (by kernel_rfl) (by kernel_rfl) (by kernel_rfl) (fun _ _ _ h => h) (Or.inl ⟨by rfl, ?y10_8⟩) (by assumption) ?r10_8
    case y10_8 => intro w hSw; (try dsimp only at hSw); go_simp; try with_reducible rfl
    try simp only [Act.put, List.setIfInBounds_toArray, List.set_cons_zero, List.set_cons_succ]
    refine wpAnyH_take (i := 11) (oi := { dst := some 16, op := Op.pick (Operand.tmp 8) (Operand.const (Value.bool true)) (Operand.tmp 15), type := 4, pos := "law.go:27", after := #[{ on := 3, ground := Ground.data }, { on := 10, ground := Ground.data }], guard := none }) (v := ?v11_9) rfl (by kernel_rfl) (by kernel_rfl) (by kernel_rfl) (fun _ _ _ h => h) (Or.inl ⟨by rfl, ?y11_9⟩) (by assumption) ?r11_9
    case y11_9 => intro w hSw; (try dsimp only at hSw); go_simp; try with_reducible rfl
    try simp only [Act.put, List.setIfInBounds_toArray, List.set_cons_zero, List.set_cons_succ]
    refine wpAnyH_take (i := 12) (oi := { dst := some 2, op := Op.assign (Operand.tmp 16), type := 4, pos := "law.go:27", after := #[{ on := 11, ground := Ground.data }, { on := 8, ground := Ground.chain }, { on := 0, ground := Ground.phase }, { on := 1, ground := Ground.phase }, { on := 2, ground := Ground.phase }, { on := 3, ground := Ground.phase }, { on := 4, ground := Ground.phase }, { on := 5, ground := Ground.phase }, { on := 6, ground := Ground.phase }, { on := 7, ground := Ground.phase }, { on := 8, ground := Ground.phase }, { on := 9, ground := Ground.phase }, { on := 10, ground := Ground.phase }, { on := 11, ground := Ground.phase }], guard := none }) (v := ?v12_10) rfl (by kernel_rfl) (by kernel_rfl) (by kernel_rfl) (fun _ _ _ h => h) (Or.inl ⟨by rfl, ?y12_10⟩) (by assumption) ?r12_10
    case y12_10 => intro w hSw; (try dsimp only at hSw); go_simp; try with_reducible rfl
    try simp only [Act.put, List.setIfInBounds_toArray, List.set_cons_zero, List.set_cons_succ]
    refine wpAnyH_done (by kernel_rfl) ?_ _
    refine NoPanic.normal ?_
    have HB2 := Lib.hid hHeld.1.1.1.bel
    clear hHeld
    go_wp2
    go_ret
    exact ⟨by simp, HB1.out.trans (HB2.out.mono (by rw [← hB1]; exact HB1.out.size))⟩
  · have q0 : decide ((2000 : Int) < (L : Int)) = true := decide_eq_true (by omega)
    have q0' : decide (2000 < L) = true := decide_eq_true (by omega)
    go_enter Try.func4, Try.ntmps4
    go_wp2_with fail
    refine HAW.out.mono ?_
    rintro e w1 ⟨rfl, hb1⟩
    have HB1 := Lib.hid hb1
    clear hb1
    go_wp2_with fail
    refine wp_region_noPanic ?_
    refine wp_region_held_drew (S := (fun w' => Below w.heap.size w w')) (by kernel_rfl) ?_ (fun hHeld => ?_)
    · exact HB1.out.drew
    refine wpAnyH_take (i := 0) (oi := { dst := some 5, op := Op.move (Operand.tmp 0), type := 22, pos := "law.go:27", after := #[], guard := none }) (v := ?v0_11) rfl (by kernel_rfl) (by kernel_rfl) (by kernel_rfl) (fun _ _ _ h => h) (Or.inl ⟨by rfl, ?y0_11⟩) (by assumption) ?r0_11
    case y0_11 => intro w hSw; (try dsimp only at hSw); go_simp; try with_reducible rfl
    try simp only [Act.put, List.setIfInBounds_toArray, List.set_cons_zero, List.set_cons_succ]
    refine wpAnyH_take (i := 1) (oi := { dst := some 6, op := Op.call { callee := Callee.builtin Builtin.len, args := #[Operand.tmp 5], argTypes := #[22] }, type := 3, pos := "law.go:27", after := #[{ on := 0, ground := Ground.data }], guard := none }) (v := ?v1_12) rfl (by kernel_rfl) (by kernel_rfl) (by kernel_rfl) (fun _ _ _ h => h) (Or.inl ⟨by rfl, ?y1_12⟩) (by assumption) ?r1_12
    case y1_12 => intro w hSw; (try dsimp only at hSw); go_simp; try with_reducible rfl
    try simp only [Act.put, List.setIfInBounds_toArray, List.set_cons_zero, List.set_cons_succ]
    refine wpAnyH_take (i := 2) (oi := { dst := some 7, op := Op.binOp BinOp.gtr 3 (Operand.tmp 6) (Operand.const (Value.int IntKind.i64 2000)) 3, type := 4, pos := "law.go:27", after := #[{ on := 1, ground := Ground.data }], guard := none }) (v := ?v2_13) rfl (by kernel_rfl) (by kernel_rfl) (by kernel_rfl) (fun _ _ _ h => h) (Or.inl ⟨by rfl, ?y2_13⟩) (by assumption) ?r2_13
    case y2_13 => intro w hSw; (try dsimp only at hSw); go_simp; try with_reducible rfl
    try simp only [Act.put, List.setIfInBounds_toArray, List.set_cons_zero, List.set_cons_succ]
    refine wpAnyH_take (i := 3) (oi := { dst := some 8, op := Op.move (Operand.tmp 7), type := 4, pos := "law.go:27", after := #[{ on := 2, ground := Ground.data }], guard := none }) (v := ?v3_14) rfl (by kernel_rfl) (by kernel_rfl) (by kernel_rfl) (fun _ _ _ h => h) (Or.inl ⟨by rfl, ?y3_14⟩) (by assumption) ?r3_14
    case y3_14 => intro w hSw; (try dsimp only at hSw); go_simp; try with_reducible rfl
    try simp only [Act.put, List.setIfInBounds_toArray, List.set_cons_zero, List.set_cons_succ]
    refine wpAnyH_take (i := 4) (oi := { dst := some 9, op := Op.move (Operand.tmp 0), type := 22, pos := "law.go:27", after := #[{ on := 3, ground := Ground.guard }], guard := some (3, false) }) (v := undef) rfl (by kernel_rfl) (by kernel_rfl) (by kernel_rfl) (fun _ _ _ h => h) (Or.inr ⟨by rfl, rfl⟩) (by assumption) ?_
    try simp only [Act.put, List.setIfInBounds_toArray, List.set_cons_zero, List.set_cons_succ]
    refine wpAnyH_take (i := 5) (oi := { dst := some 10, op := Op.call { callee := Callee.value (Operand.func 18), args := #[Operand.tmp 9], argTypes := #[22] }, type := 22, pos := "law.go:27", after := #[{ on := 4, ground := Ground.data }, { on := 3, ground := Ground.chain }, { on := 3, ground := Ground.guard }], guard := some (3, false) }) (v := undef) rfl (by kernel_rfl) (by kernel_rfl) (by kernel_rfl) (fun _ _ _ h => h) (Or.inr ⟨by rfl, rfl⟩) (by assumption) ?_
    try simp only [Act.put, List.setIfInBounds_toArray, List.set_cons_zero, List.set_cons_succ]
    refine wpAnyH_take (i := 6) (oi := { dst := some 11, op := Op.convert 22 9 (Operand.tmp 10), type := 9, pos := "law.go:27", after := #[{ on := 5, ground := Ground.data }, { on := 3, ground := Ground.guard }], guard := some (3, false) }) (v := undef) rfl (by kernel_rfl) (by kernel_rfl) (by kernel_rfl) (fun _ _ _ h => h) (Or.inr ⟨by rfl, rfl⟩) (by assumption) ?_
    try simp only [Act.put, List.setIfInBounds_toArray, List.set_cons_zero, List.set_cons_succ]
    refine wpAnyH_take (i := 7) (oi := { dst := some 12, op := Op.move (Operand.tmp 0), type := 22, pos := "law.go:27", after := #[{ on := 3, ground := Ground.guard }], guard := some (3, false) }) (v := undef) rfl (by kernel_rfl) (by kernel_rfl) (by kernel_rfl) (fun _ _ _ h => h) (Or.inr ⟨by rfl, rfl⟩) (by assumption) ?_
    try simp only [Act.put, List.setIfInBounds_toArray, List.set_cons_zero, List.set_cons_succ]
    refine wpAnyH_take (i := 8) (oi := { dst := some 13, op := Op.call { callee := Callee.value (Operand.func 19), args := #[Operand.tmp 12], argTypes := #[22] }, type := 22, pos := "law.go:27", after := #[{ on := 7, ground := Ground.data }, { on := 5, ground := Ground.chain }, { on := 3, ground := Ground.guard }], guard := some (3, false) }) (v := undef) rfl (by kernel_rfl) (by kernel_rfl) (by kernel_rfl) (fun _ _ _ h => h) (Or.inr ⟨by rfl, rfl⟩) (by assumption) ?_
    try simp only [Act.put, List.setIfInBounds_toArray, List.set_cons_zero, List.set_cons_succ]
    refine wpAnyH_take (i := 9) (oi := { dst := some 14, op := Op.convert 22 9 (Operand.tmp 13), type := 9, pos := "law.go:27", after := #[{ on := 8, ground := Ground.data }, { on := 3, ground := Ground.guard }], guard := some (3, false) }) (v := undef) rfl (by kernel_rfl) (by kernel_rfl) (by kernel_rfl) (fun _ _ _ h => h) (Or.inr ⟨by rfl, rfl⟩) (by assumption) ?_
    try simp only [Act.put, List.setIfInBounds_toArray, List.set_cons_zero, List.set_cons_succ]
    refine wpAnyH_take (i := 10) (oi := { dst := some 15, op := Op.binOp BinOp.eql 9 (Operand.tmp 11) (Operand.tmp 14) 9, type := 4, pos := "law.go:27", after := #[{ on := 6, ground := Ground.data }, { on := 9, ground := Ground.data }, { on := 3, ground := Ground.guard }], guard := some (3, false) }) (v := undef) rfl (by kernel_rfl) (by kernel_rfl) (by kernel_rfl) (fun _ _ _ h => h) (Or.inr ⟨by rfl, rfl⟩) (by assumption) ?_
    try simp only [Act.put, List.setIfInBounds_toArray, List.set_cons_zero, List.set_cons_succ]
    refine wpAnyH_take (i := 11) (oi := { dst := some 16, op := Op.pick (Operand.tmp 8) (Operand.const (Value.bool true)) (Operand.tmp 15), type := 4, pos := "law.go:27", after := #[{ on := 3, ground := Ground.data }, { on := 10, ground := Ground.data }], guard := none }) (v := ?v11_15) rfl (by kernel_rfl) (by kernel_rfl) (by kernel_rfl) (fun _ _ _ h => h) (Or.inl ⟨by rfl, ?y11_15⟩) (by assumption) ?r11_15
    case y11_15 => intro w hSw; (try dsimp only at hSw); go_simp; try with_reducible rfl
    try simp only [Act.put, List.setIfInBounds_toArray, List.set_cons_zero, List.set_cons_succ]
    refine wpAnyH_take (i := 12) (oi := { dst := some 2, op := Op.assign (Operand.tmp 16), type := 4, pos := "law.go:27", after := #[{ on := 11, ground := Ground.data }, { on := 8, ground := Ground.chain }, { on := 0, ground := Ground.phase }, { on := 1, ground := Ground.phase }, { on := 2, ground := Ground.phase }, { on := 3, ground := Ground.phase }, { on := 4, ground := Ground.phase }, { on := 5, ground := Ground.phase }, { on := 6, ground := Ground.phase }, { on := 7, ground := Ground.phase }, { on := 8, ground := Ground.phase }, { on := 9, ground := Ground.phase }, { on := 10, ground := Ground.phase }, { on := 11, ground := Ground.phase }], guard := none }) (v := ?v12_16) rfl (by kernel_rfl) (by kernel_rfl) (by kernel_rfl) (fun _ _ _ h => h) (Or.inl ⟨by rfl, ?y12_16⟩) (by assumption) ?r12_16
    case y12_16 => intro w hSw; (try dsimp only at hSw); go_simp; try with_reducible rfl
    try simp only [Act.put, List.setIfInBounds_toArray, List.set_cons_zero, List.set_cons_succ]
    refine wpAnyH_done (by kernel_rfl) ?_ _
    refine NoPanic.normal ?_
    have HB2 := Lib.hid hHeld
    clear hHeld
    go_wp2
    go_ret
    exact ⟨rfl, HB2.out⟩
set_option maxRecDepth 100000 in
set_option maxHeartbeats 2000000 in
theorem dotsScans_walk (v : Value) (l : List UInt8) (w : World) (hml : ML w) (h : SB w v l) :
    Calls Try.prog 5 #[v] w fun e w' => e = .returned (.bool true) ∧ Below w.heap.size w w' := by
  obtain ⟨A, c, rfl, -, -, -⟩ := h.form
  obtain ⟨L, hL⟩ : ∃ L, l.length = L := ⟨_, rfl⟩
  have HL := Lib.hid hL
  have HS := Lib.hid h
  rw [hL] at HS ⊢
  have haw := awake09_any w hml
  have HAW := Lib.hid haw
  have HML := Lib.hid hml
  clear h hL haw hml
  by_cases hlen : L ≤ 2000
  · have q0 : decide ((2000 : Int) < (L : Int)) = false := decide_eq_false (by omega)
    have q0' : decide (2000 < L) = false := decide_eq_false (by omega)
    go_enter Try.func5, Try.ntmps5
    go_wp2_with fail
    refine HAW.out.mono ?_
    rintro e w1 ⟨rfl, hb1⟩
    have hc1 := scan_any _ l w1 (by have := HL.out; omega) (HML.out.below hb1) (HS.out.below hb1)
    have hc2 := fun W' (hs : SB W' (.slice A L c) l) => qscan_any _ l W' (by have := HL.out; omega) hs
    obtain ⟨x, hx⟩ : ∃ b, scanX l = b := ⟨_, rfl⟩
    obtain ⟨r, hr⟩ : ∃ b, scanR l = b := ⟨_, rfl⟩
    obtain ⟨b, hb⟩ : ∃ b, scanB l = b := ⟨_, rfl⟩
    rw [hx, hr, hb] at hc1
    simp only [hx, hr, hb] at hc2
    have C1 := Lib.hid hc1
    have C2 := Lib.hid hc2
    have HB1 := Lib.hid hb1
    clear hc1 hc2 hx hr hb hb1
    go_wp2_with fail
    refine C1.out.mono ?_
    rintro e w2 ⟨u1, u2, rfl, s1, s2, hb2⟩
    have HB2 := Lib.hid (HB1.out.trans (hb2.mono HB1.out.size))
    have S1 := Lib.hid s1
    have S2 := Lib.hid s2
    clear s1 s2 hb2
    go_wp2_with fail
    refine (C2.out _ (HS.out.below HB2.out)).mono ?_
    rintro e w3 ⟨u3, u4, rfl, s3, s4, hb3⟩
    have HB3 := Lib.hid (HB2.out.trans (hb3.mono HB2.out.size))
    have v1 := (S1.out.below hb3).str
    have v2 := (S2.out.below hb3).str
    have v3 := s3.str
    have v4 := s4.str
    clear s3 s4 hb3
    go_wp2
    go_ret
    exact ⟨by simp, HB3.out⟩
  · have q0 : decide ((2000 : Int) < (L : Int)) = true := decide_eq_true (by omega)
    have q0' : decide (2000 < L) = true := decide_eq_true (by omega)
    go_enter Try.func5, Try.ntmps5
    go_wp2_with fail
    refine HAW.out.mono ?_
    rintro e w1 ⟨rfl, hb1⟩
    have HB1 := Lib.hid hb1
    clear hb1
    go_wp2
    go_ret
    exact ⟨rfl, HB1.out⟩
set_option maxRecDepth 100000 in
set_option maxHeartbeats 2000000 in
theorem dotsCut_walk (v : Value) (l : List UInt8) (cut : Int) (w : World) (hml : ML w) (h : SB w v l) (hcut : (Lit.int .i64 cut).wf = true) :
    Calls Try.prog 7 #[v, .int .i64 cut] w fun e w' => e = .returned (.bool true) ∧ Below w.heap.size w w' := by
  obtain ⟨A, c, rfl, -, -, -⟩ := h.form
  obtain ⟨L, hL⟩ : ∃ L, l.length = L := ⟨_, rfl⟩
  have HL := Lib.hid hL
  have HS := Lib.hid h
  rw [hL] at HS ⊢
  have haw := awake09_any w hml
  have HAW := Lib.hid haw
  have HML := Lib.hid hml
  clear h hL haw hml hcut
  by_cases hlen : L ≤ 2000
  · have q0 : decide ((2000 : Int) < (L : Int)) = false := decide_eq_false (by omega)
    have q0' : decide (2000 < L) = false := decide_eq_false (by omega)
    go_enter Try.func7, Try.ntmps7
    go_wp2_with fail
    refine HAW.out.mono ?_
    rintro e w1 ⟨rfl, hb1⟩
    have hc1 := stuff_any _ l w1 (by have := HL.out; omega) (HML.out.below hb1) (HS.out.below hb1)
    have hsl := stuffL_len l
    have hca := fun k => cut_all l k
    obtain ⟨st, hst⟩ : ∃ b, stuffL l = b := ⟨_, rfl⟩
    rw [hst] at hc1 hsl
    simp only [hst] at hca
    rw [HL.out] at hsl
    have C1 := Lib.hid hc1
    have HB1 := Lib.hid hb1
    have HCA := Lib.hid hca
    clear hc1 hst hb1 hca
    go_wp2_with fail
    refine C1.out.mono ?_
    rintro e w2 ⟨u1, rfl, ho, hb2⟩
    have HB2 := Lib.hid (HB1.out.trans (hb2.mono HB1.out.size))
    have hrd := ho.reads
    obtain ⟨A1, c1, rfl, hcc, -, -⟩ := hrd.form
    have S1 := Lib.hid hrd
    obtain ⟨n, hn⟩ : ∃ n, st.length = n := ⟨_, rfl⟩
    have HNN := Lib.hid hn
    rw [hn] at S1 hcc ⊢
    clear ho hb2 hrd
    by_cases h0 : 0 ≤ cut
    · obtain ⟨k, rfl⟩ : ∃ k : Nat, cut = k := ⟨cut.toNat, by omega⟩
      have t0 : decide ((k : Int) < 0) = false := decide_eq_false (by omega)
      by_cases h1 : k < n
      · have t1 : decide ((n : Int) ≤ (k : Int)) = false := decide_eq_false (by omega)
        have t1' : decide (n ≤ k) = false := decide_eq_false (by omega)
        have ka := fun w => slice_runh A1 n c1 k (by omega) (k : Int) rfl w
        obtain ⟨e1, e2⟩ := HCA.out k (by have := HNN.out; omega)
        have hs3 : SB w2 (.slice A1 k c1) (st.take k) := S1.out.take k (by have := HNN.out; omega) (.inr trivial)
        have hkl : (st.take k).length = k := by rw [List.length_take]; have := HNN.out; omega
        have hc3 := scan_any _ (st.take k) w2 (by omega) (HML.out.below HB2.out) hs3
        rw [e1, e2] at hc3
        have C3 := Lib.hid hc3
        have HKL := Lib.hid hkl
        clear e1 e2 hs3 hc3 hkl hn hsl
        go_wp2_with fail
        refine C3.out.mono ?_
        rintro e w3 ⟨u3, u4, rfl, s3, s4, hb3⟩
        obtain ⟨A4, c4, rfl, -, -, -⟩ := s4.form
        rw [HKL.out]
        have HB3 := Lib.hid (HB2.out.trans (hb3.mono HB2.out.size))
        clear s3 s4 hb3
        go_wp2
        go_ret
        exact ⟨by simp, HB3.out⟩
      · have t1 : decide ((n : Int) ≤ (k : Int)) = true := decide_eq_true (by omega)
        have t1' : decide (n ≤ k) = true := decide_eq_true (by omega)
        clear hn hsl
        go_wp2
        go_ret
        exact ⟨rfl, HB2.out⟩
    · have t0 : decide (cut < 0) = true := decide_eq_true (by omega)
      clear hn hsl
      go_wp2
      go_ret
      exact ⟨rfl, HB2.out⟩
  · have q0 : decide ((2000 : Int) < (L : Int)) = true := decide_eq_true (by omega)
    have q0' : decide (2000 < L) = true := decide_eq_true (by omega)
    go_enter Try.func7, Try.ntmps7
    go_wp2_with fail
    refine HAW.out.mono ?_
    rintro e w1 ⟨rfl, hb1⟩
    have HB1 := Lib.hid hb1
    clear hb1
    go_wp2
    go_ret
    exact ⟨rfl, HB1.out⟩
set_option maxRecDepth 100000 in
set_option maxHeartbeats 2000000 in
theorem dotsBack_walk (v : Value) (l : List UInt8) (v2 : Value) (m : List UInt8) (w : World) (hml : ML w) (h : SB w v l) (h2 : SB w v2 m) :
    Calls Try.prog 6 #[v, v2] w fun e w' => e = .returned (.bool true) ∧ Below w.heap.size w w' := by
  obtain ⟨A, c, rfl, -, -, -⟩ := h.form
  obtain ⟨A2, c2, rfl, -, -, -⟩ := h2.form
  obtain ⟨L, hL⟩ : ∃ L, l.length = L := ⟨_, rfl⟩
  have HL := Lib.hid hL
  have HS := Lib.hid h
  rw [hL] at HS ⊢
  obtain ⟨M, hM⟩ : ∃ L, m.length = L := ⟨_, rfl⟩
  have HLM := Lib.hid hM
  have HS2 := Lib.hid h2
  rw [hM] at HS2 ⊢
  have haw := awake09_any w hml
  have HAW := Lib.hid haw
  have HML := Lib.hid hml
  clear h hL haw hml h2 hM
  by_cases hlen : L ≤ 2000 ∧ M ≤ 500
  · have q0 : decide ((2000 : Int) < (L : Int)) = false := decide_eq_false (by omega)
    have q0' : decide (2000 < L) = false := decide_eq_false (by omega)
    have q1 : decide ((500 : Int) < (M : Int)) = false := decide_eq_false (by omega)
    have q1' : decide (500 < M) = false := decide_eq_false (by omega)
    go_enter Try.func6, Try.ntmps6
    go_wp2_with fail
    refine HAW.out.mono ?_
    rintro e w1 ⟨rfl, hb1⟩
    have hc1 := stuff_any _ l w1 (by have := HL.out; omega) (HML.out.below hb1) (HS.out.below hb1)
    have hsl := stuffL_len l
    have hba := back_all l m
    have hcc := fun W' (hs : SB W' (.slice A L c) l) => close_any _ l W' (by have := HL.out; omega) hs
    obtain ⟨st, hst⟩ : ∃ b, stuffL l = b := ⟨_, rfl⟩
    obtain ⟨cl, hcl⟩ : ∃ b, closeL l = b := ⟨_, rfl⟩
    rw [hst] at hc1 hsl hba
    rw [hcl] at hba
    simp only [hcl] at hcc
    rw [HL.out] at hsl
    have C1 := Lib.hid hc1
    have CC := Lib.hid hcc
    have HB1 := Lib.hid hb1
    have HBA := Lib.hid hba
    have HSL := Lib.hid hsl
    clear hc1 hst hb1 hba hcc hcl hsl
    go_wp2_with fail
    refine C1.out.mono ?_
    rintro e w2 ⟨u1, rfl, ho, hb2⟩
    have HB2 := Lib.hid (HB1.out.trans (hb2.mono HB1.out.size))
    have HO := Lib.hid ho
    have HLE := Lib.hid hb2.size
    have HS22 := Lib.hid (HS2.out.below HB2.out)
    obtain ⟨A1, c1, rfl, -, -, -⟩ := ho.reads.form
    clear ho hb2
    go_wp2_with (at_builtin; refine wpB_append rfl _ _ rfl w1.heap.size _ _ st m rfl HO.out rfl HS22.out (by have := HSL.out; have := HLM.out; omega) HLE.out ?_; intro v6 w6 hown6 hgrow6 hbel6; have HO6 := Lib.hid hown6; have HB6 := Lib.hid (HB2.out.trans ((hbel6.mono HB1.out.size))); have C6 := Lib.hid (scan_any _ (st ++ m) w6 (by have := HSL.out; have := HLM.out; rw [List.length_append]; omega) (HML.out.below HB6.out) hown6.reads); clear hown6 hgrow6 hbel6)
    have c6 := C6.out
    rw [HBA.out.1, HBA.out.2.1, HBA.out.2.2] at c6
    refine c6.mono ?_
    clear c6 C6
    rintro e w7 ⟨u3, u4, rfl, s3, s4, hb7⟩
    have hb7' := HB6.out.trans (hb7.mono HB6.out.size)
    have a7 := HS.out.below hb7'
    have m7 := HS2.out.below hb7'
    have HB7 := Lib.hid hb7'
    clear hb7 hb7' HO HO6
    obtain ⟨B7, hB7⟩ : ∃ B, w7.heap.size = B := ⟨_, rfl⟩
    go_wp2_with fail
    refine wp_region_noPanic ?_
    refine wp_region_held_drew (S := (fun w' => (Mine B7 w7 w' ∧ SB w' (.slice A L c) l) ∧ (SB w' u3 cl ∧ SB w' u4 m) ∧ SB w' (.slice A2 M c2) m)) (by kernel_rfl) ?_ (fun hHeld => ?_)
    · exact ⟨⟨⟨by rw [← hB7]; exact Nat.le_refl _, (Below.refl _ _).drew⟩, a7⟩, ⟨s3, s4⟩, m7⟩
    refine wpAnyH_take (i := 0) (oi := { dst := some 27, op := Op.move (Operand.tmp 7), type := 4, pos := "law.go:52", after := #[], guard := none }) (v := ?v0_17) rfl (by kernel_rfl) (by kernel_rfl) (by kernel_rfl) (fun _ _ _ h => h) (Or.inl ⟨by rfl, ?y0_17⟩) (by assumption) ?r0_17
    case y0_17 => intro w hSw; (try dsimp only at hSw); go_simp; try with_reducible rfl
    try simp only [Act.put, List.setIfInBounds_toArray, List.set_cons_zero, List.set_cons_succ]
    refine wpAnyH_take (i := 1) (oi := { dst := some 28, op := Op.move (Operand.tmp 27), type := 4, pos := "law.go:52", after := #[{ on := 0, ground := Ground.data }], guard := none }) (v := ?v1_18) rfl (by kernel_rfl) (by kernel_rfl) (by kernel_rfl) (fun _ _ _ h => h) (Or.inl ⟨by rfl, ?y1_18⟩) (by assumption) ?r1_18
    case y1_18 => intro w hSw; (try dsimp only at hSw); go_simp; try with_reducible rfl
    try simp only [Act.put, List.setIfInBounds_toArray, List.set_cons_zero, List.set_cons_succ]
    refine wpAnyH_take (i := 2) (oi := { dst := some 29, op := Op.move (Operand.tmp 5), type := 22, pos := "law.go:52", after := #[{ on := 1, ground := Ground.guard }], guard := some (1, true) }) (v := ?v2_19) rfl (by kernel_rfl) (by kernel_rfl) (by kernel_rfl) (fun _ _ _ h => h) (Or.inl ⟨by rfl, ?y2_19⟩) (by assumption) ?r2_19
    case y2_19 => intro w hSw; (try dsimp only at hSw); go_simp; try with_reducible rfl
    try simp only [Act.put, List.setIfInBounds_toArray, List.set_cons_zero, List.set_cons_succ]
    refine wpAnyH_take (i := 3) (oi := { dst := some 30, op := Op.convert 22 9 (Operand.tmp 29), type := 9, pos := "law.go:52", after := #[{ on := 2, ground := Ground.data }, { on := 1, ground := Ground.guard }], guard := some (1, true) }) (v := ?v3_20) rfl (by kernel_rfl) (by kernel_rfl) (by kernel_rfl) (fun _ _ _ h => h) (Or.inl ⟨by rfl, ?y3_20⟩) (by assumption) ?r3_20
    case y3_20 => intro w hSw; (try dsimp only at hSw); have hcv := hSw.2.1.1.str; go_simp; try with_reducible rfl
    try simp only [Act.put, List.setIfInBounds_toArray, List.set_cons_zero, List.set_cons_succ]
    refine wpAnyH_take (i := 4) (oi := { dst := some 31, op := Op.move (Operand.tmp 0), type := 22, pos := "law.go:52", after := #[{ on := 1, ground := Ground.guard }], guard := some (1, true) }) (v := ?v4_21) rfl (by kernel_rfl) (by kernel_rfl) (by kernel_rfl) (fun _ _ _ h => h) (Or.inl ⟨by rfl, ?y4_21⟩) (by assumption) ?r4_21
    case y4_21 => intro w hSw; (try dsimp only at hSw); go_simp; try with_reducible rfl
    try simp only [Act.put, List.setIfInBounds_toArray, List.set_cons_zero, List.set_cons_succ]
    refine wpAnyH_ready (rs := [5]) (by kernel_rfl) (by simp) (AllReadyH.cons (o := { dst := some 32, op := Op.call { callee := Callee.value (Operand.func 16), args := #[Operand.tmp 31], argTypes := #[22] }, type := 22, pos := "law.go:52", after := #[{ on := 4, ground := Ground.data }, { on := 1, ground := Ground.chain }, { on := 1, ground := Ground.guard }], guard := some (1, true) }) rfl (fun K hK => ?_) AllReadyH.nil)
    go_simp
    refine (CC.out _ hHeld.1.2).mono ?_; rintro e w8 ⟨u5, rfl, ho5, hb8⟩; have hsb5 := ho5.reads
    go_wp2_with fail
    refine hK.out _ _ ?_ (fun hHeld => ?_)
    · (try dsimp only); (go_split_ands; (repeat' apply And.intro) <;> first | assumption | exact Mine.call (by assumption) (by assumption) | exact Mine.alloc (by assumption) _ | exact Mine.setCells (by assumption) _ _ _ (by omega) | exact Mine.callN (by assumption) (by assumption) (by omega) | exact Row.belowN (by assumption) (by assumption) (by omega) | exact there_belowN (by assumption) (by assumption) (by omega) | exact rangeAt_below (by assumption) (by assumption) | exact World.rangeAt_alloc (by assumption) _ | exact World.rangeAt_setCells_apart (by assumption) _ _ _ (Or.inl (by omega)) | exact there_below (by assumption) (by assumption) | exact World.there_alloc (by assumption) _ | exact World.there_setCells (by assumption) _ _ _ | exact Row.belowS (by assumption) (by assumption) | exact Row.alloc (by assumption) _ | exact Row.setCells (by assumption) _ _ (by omega) | exact HS.below (by assumption) (by assumption) | exact SB.below (by assumption) (by assumption) | exact HS.alloc (by assumption) _ | exact Box.call (by assumption) (by assumption) | exact Box.alloc (by assumption) _ | exact Box.put (by assumption) _ (by assumption) | exact cell_below (by assumption) (by assumption) | exact Lib.cell?_alloc_some _ (by assumption))
    clear hK K
    try simp only [Act.put, List.setIfInBounds_toArray, List.set_cons_zero, List.set_cons_succ]
    refine wpAnyH_with (E := fun w' => (SB w' u5 cl)) (by (try dsimp only); exact hsb5) hHeld (fun hHeld => ?_)
    try dsimp only at hHeld
    refine wpAnyH_take (i := 6) (oi := { dst := some 33, op := Op.convert 22 9 (Operand.tmp 32), type := 9, pos := "law.go:52", after := #[{ on := 5, ground := Ground.data }, { on := 1, ground := Ground.guard }], guard := some (1, true) }) (v := ?v6_22) rfl (by kernel_rfl) (by kernel_rfl) (by kernel_rfl) (fun _ _ _ h => h) (Or.inl ⟨by rfl, ?y6_22⟩) (by assumption) ?r6_22
    case y6_22 => intro w hSw; (try dsimp only at hSw); have hcv := hSw.2.str; go_simp; try with_reducible rfl
    try simp only [Act.put, List.setIfInBounds_toArray, List.set_cons_zero, List.set_cons_succ]
    refine wpAnyH_take (i := 7) (oi := { dst := some 34, op := Op.binOp BinOp.eql 9 (Operand.tmp 30) (Operand.tmp 33) 9, type := 4, pos := "law.go:52", after := #[{ on := 3, ground := Ground.data }, { on := 6, ground := Ground.data }, { on := 1, ground := Ground.guard }], guard := some (1, true) }) (v := ?v7_23) rfl (by kernel_rfl) (by kernel_rfl) (by kernel_rfl) (fun _ _ _ h => h) (Or.inl ⟨by rfl, ?y7_23⟩) (by assumption) ?r7_23
    case y7_23 => intro w hSw; (try dsimp only at hSw); go_simp; try with_reducible rfl
    try simp only [Act.put, List.setIfInBounds_toArray, List.set_cons_zero, List.set_cons_succ]
    refine wpAnyH_take (i := 8) (oi := { dst := some 35, op := Op.pick (Operand.tmp 28) (Operand.tmp 34) (Operand.const (Value.bool false)), type := 4, pos := "law.go:52", after := #[{ on := 1, ground := Ground.data }, { on := 7, ground := Ground.data }], guard := none }) (v := ?v8_24) rfl (by kernel_rfl) (by kernel_rfl) (by kernel_rfl) (fun _ _ _ h => h) (Or.inl ⟨by rfl, ?y8_24⟩) (by assumption) ?r8_24
    case y8_24 => intro w hSw; (try dsimp only at hSw); go_simp; try with_reducible rfl
    try simp only [Act.put, List.setIfInBounds_toArray, List.set_cons_zero, List.set_cons_succ]
    refine wpAnyH_take (i := 9) (oi := { dst := some 36, op := Op.move (Operand.tmp 35), type := 4, pos := "law.go:52", after := #[{ on := 8, ground := Ground.data }, { on := 5, ground := Ground.chain }], guard := none }) (v := ?v9_25) rfl (by kernel_rfl) (by kernel_rfl) (by kernel_rfl) (fun _ _ _ h => h) (Or.inl ⟨by rfl, ?y9_25⟩) (by assumption) ?r9_25
    case y9_25 => intro w hSw; (try dsimp only at hSw); go_simp; try with_reducible rfl
    try simp only [Act.put, List.setIfInBounds_toArray, List.set_cons_zero, List.set_cons_succ]
    refine wpAnyH_take (i := 10) (oi := { dst := some 37, op := Op.move (Operand.tmp 6), type := 22, pos := "law.go:52", after := #[{ on := 9, ground := Ground.guard }], guard := some (9, true) }) (v := ?v10_26) rfl (by kernel_rfl) (by kernel_rfl) (by kernel_rfl) (fun _ _ _ h => h) (Or.inl ⟨by rfl, ?y10_26⟩) (by assumption) ?r10_26
    case y10_26 => intro w hSw; (try dsimp only at hSw); go_simp; try with_reducible rfl
    try simp only [Act.put, List.setIfInBounds_toArray, List.set_cons_zero, List.set_cons_succ]
    refine wpAnyH_take (i := 11) (oi := { dst := some 38, op := Op.convert 22 9 (Operand.tmp 37), type := 9, pos := "law.go:52", after := #[{ on := 10, ground := Ground.data }, { on := 9, ground := Ground.guard }], guard := some (9, true) }) (v := ?v11_27) rfl (by kernel_rfl) (by kernel_rfl) (by kernel_rfl) (fun _ _ _ h => h) (Or.inl ⟨by rfl, ?y11_27⟩) (by assumption) ?r11_27
    case y11_27 => intro w hSw; (try dsimp only at hSw); have hcv := hSw.1.2.1.2.str; go_simp; try with_reducible rfl
    try simp only [Act.put, List.setIfInBounds_toArray, List.set_cons_zero, List.set_cons_succ]
    refine wpAnyH_take (i := 12) (oi := { dst := some 39, op := Op.move (Operand.tmp 1), type := 22, pos := "law.go:52", after := #[{ on := 9, ground := Ground.guard }], guard := some (9, true) }) (v := ?v12_28) rfl (by kernel_rfl) (by kernel_rfl) (by kernel_rfl) (fun _ _ _ h => h) (Or.inl ⟨by rfl, ?y12_28⟩) (by assumption) ?r12_28
    case y12_28 => intro w hSw; (try dsimp only at hSw); go_simp; try with_reducible rfl
    try simp only [Act.put, List.setIfInBounds_toArray, List.set_cons_zero, List.set_cons_succ]
    refine wpAnyH_take (i := 13) (oi := { dst := some 40, op := Op.convert 22 9 (Operand.tmp 39), type := 9, pos := "law.go:52", after := #[{ on := 12, ground := Ground.data }, { on := 9, ground := Ground.guard }], guard := some (9, true) }) (v := ?v13_29) rfl (by kernel_rfl) (by kernel_rfl) (by kernel_rfl) (fun _ _ _ h => h) (Or.inl ⟨by rfl, ?y13_29⟩) (by assumption) ?r13_29
    case y13_29 => intro w hSw; (try dsimp only at hSw); have hcv := hSw.1.2.2.str; go_simp; try with_reducible rfl
    try simp only [Act.put, List.setIfInBounds_toArray, List.set_cons_zero, List.set_cons_succ]
    refine wpAnyH_take (i := 14) (oi := { dst := some 41, op := Op.binOp BinOp.eql 9 (Operand.tmp 38) (Operand.tmp 40) 9, type := 4, pos := "law.go:52", after := #[{ on := 11, ground := Ground.data }, { on := 13, ground := Ground.data }, { on := 9, ground := Ground.guard }], guard := some (9, true) }) (v := ?v14_30) rfl (by kernel_rfl) (by kernel_rfl) (by kernel_rfl) (fun _ _ _ h => h) (Or.inl ⟨by rfl, ?y14_30⟩) (by assumption) ?r14_30
    case y14_30 => intro w hSw; (try dsimp only at hSw); go_simp; try with_reducible rfl
    try simp only [Act.put, List.setIfInBounds_toArray, List.set_cons_zero, List.set_cons_succ]
    refine wpAnyH_take (i := 15) (oi := { dst := some 42, op := Op.pick (Operand.tmp 36) (Operand.tmp 41) (Operand.const (Value.bool false)), type := 4, pos := "law.go:52", after := #[{ on := 9, ground := Ground.data }, { on := 14, ground := Ground.data }], guard := none }) (v := ?v15_31) rfl (by kernel_rfl) (by kernel_rfl) (by kernel_rfl) (fun _ _ _ h => h) (Or.inl ⟨by rfl, ?y15_31⟩) (by assumption) ?r15_31
    case y15_31 => intro w hSw; (try dsimp only at hSw); go_simp; try with_reducible rfl
    try simp only [Act.put, List.setIfInBounds_toArray, List.set_cons_zero, List.set_cons_succ]
    refine wpAnyH_take (i := 16) (oi := { dst := some 4, op := Op.assign (Operand.tmp 42), type := 4, pos := "law.go:52", after := #[{ on := 15, ground := Ground.data }, { on := 9, ground := Ground.chain }, { on := 0, ground := Ground.phase }, { on := 1, ground := Ground.phase }, { on := 2, ground := Ground.phase }, { on := 3, ground := Ground.phase }, { on := 4, ground := Ground.phase }, { on := 5, ground := Ground.phase }, { on := 6, ground := Ground.phase }, { on := 7, ground := Ground.phase }, { on := 8, ground := Ground.phase }, { on := 9, ground := Ground.phase }, { on := 10, ground := Ground.phase }, { on := 11, ground := Ground.phase }, { on := 12, ground := Ground.phase }, { on := 13, ground := Ground.phase }, { on := 14, ground := Ground.phase }, { on := 15, ground := Ground.phase }], guard := none }) (v := ?v16_32) rfl (by kernel_rfl) (by kernel_rfl) (by kernel_rfl) (fun _ _ _ h => h) (Or.inl ⟨by rfl, ?y16_32⟩) (by assumption) ?r16_32
    case y16_32 => intro w hSw; (try dsimp only at hSw); go_simp; try with_reducible rfl
    try simp only [Act.put, List.setIfInBounds_toArray, List.set_cons_zero, List.set_cons_succ]
    refine wpAnyH_done (by kernel_rfl) ?_ _
    refine NoPanic.normal ?_
    have HB8 := Lib.hid hHeld.1.1.1.bel
    clear hHeld
    go_wp2
    go_ret
    exact ⟨by simp, HB7.out.trans (HB8.out.mono (by rw [← hB7]; exact HB7.out.size))⟩
  · have haw : Hid (Calls Try.prog 13 #[] w fun e w' => e = .returned (.bool true) ∧ Below w.heap.size w w') := HAW
    by_cases hl : L ≤ 2000
    · have q0 : decide ((2000 : Int) < (L : Int)) = false := decide_eq_false (by omega)
      have q0' : decide (2000 < L) = false := decide_eq_false (by omega)
      have q1 : decide ((500 : Int) < (M : Int)) = true := decide_eq_true (by omega)
      have q1' : decide (500 < M) = true := decide_eq_true (by omega)
      go_enter Try.func6, Try.ntmps6
      go_wp2_with fail
      refine HAW.out.mono ?_
      rintro e w1 ⟨rfl, hb1⟩
      have HB1 := Lib.hid hb1
      clear hb1
      go_wp2
      go_ret
      exact ⟨rfl, HB1.out⟩
    · have q0 : decide ((2000 : Int) < (L : Int)) = true := decide_eq_true (by omega)
      have q0' : decide (2000 < L) = true := decide_eq_true (by omega)
      go_enter Try.func6, Try.ntmps6
      go_wp2_with fail
      refine HAW.out.mono ?_
      rintro e w1 ⟨rfl, hb1⟩
      have HB1 := Lib.hid hb1
      clear hb1
      go_wp2
      go_ret
      exact ⟨rfl, HB1.out⟩
end Go.Proofs.Ythcggjehihkdoaa

/- the reference's Bytes; the sums of seals. -/
import Derived.RangeFuncNested
import Derived.RangeFuncBound
import Derived.RangeFuncCalls
import Derived.RangeFuncLeaves
import Derived.Shelf.Abstract
import Derived.Shelf.RegionOpen
import Derived.WalkKit
import Derived.OwnWalkIn
import Derived.TacticsInMore
import Derived.LoopNIn
import Derived.LoopIn
import Derived.Outline
import Derived.Lib.Hide
import Derived.Lib.SliceRun
import Derived.IntWalk
import Derived.WalkLawsBesides
import Derived.WalkSpells
import Derived.Laws.BitsAllLaws
import Derived.Lib.ConvBytes
import Derived.Maps.AppendAt
import Derived.Lib.AppendStr
import Derived.Lib.SlBytesConst
import Derived.Laws.AppendOwnNone
import Derived.Laws.OwnMore
import Derived.Laws.BytesArg
import Derived.Deep.RegionHeld3
import Derived.BigQuiet
import Derived.Deep.RegionLaw
import Derived.Deep.QuietTactic
import Derived.Lib.OthersKept
import Derived.Test.YtnepmhdnkcnnmaaProg
import Derived.Deep.DeepFit
import Derived.Test.YtnepmhdnkcnnmaaSeE
set_option linter.unusedVariables false
set_option linter.unusedSimpArgs false
namespace Go.Proofs.Ytnepmhdnkcnnmaa
open Go Go.RowKit Go.Shelf

theorem enc_bs4 (n : Int) : enc8 (bs4 n) = [.int .u8 (n / 16777216 % 256), .int .u8 (n / 65536 % 256), .int .u8 (n / 256 % 256), .int .u8 (n % 256)] := by
  simp [enc8, bs4, byI_nat]
set_option maxRecDepth 100000 in
theorem four_any (n : Int) (w : World) : Calls Try.prog 29 #[.int .i64 n] w fun e w' => ∃ u, e = .returned u ∧ OB w' w.heap.size u (bs4 n) ∧ Below w.heap.size w w' := by
  have ho := OB_lit w #[.int .u8 (n / 16777216 % 256), .int .u8 (n / 65536 % 256), .int .u8 (n / 256 % 256), .int .u8 (n % 256)] (bs4 n) (by simp [bs4]) (enc_bs4 n).symm
  have HO := Lib.hid ho
  have HB := Lib.hid ((Below.refl _ w).alloc (Nat.le_refl _) (.cells #[.int .u8 (n / 16777216 % 256), .int .u8 (n / 65536 % 256), .int .u8 (n / 256 % 256), .int .u8 (n % 256)] 5))
  clear ho
  go_enter Try.func29, Try.ntmps29
  go_wp2
  go_ret
  exact ⟨_, rfl, HO.out, HB.out⟩

set_option maxHeartbeats 2000000 in
set_option maxRecDepth 100000 in
/-- **the reference's Bytes** -/
theorem qbytes_any (s c : Int) (r p : List UInt8) (hr : r.length = 32) (hp : p.length = 32) (w : World) :
    Calls Try.prog 15 #[.agg (sealC s c r p).toArray] w fun e w' => ∃ u, e = .returned u ∧ OB w' w.heap.size u (sealB s c r p) ∧ Below w.heap.size w w' := by
  obtain ⟨sc, hsc, hl66, hsi, hso, r0, m0, hat⟩ := seal_box w s c r p hr hp
  rw [hsc]
  obtain ⟨A, hA⟩ : ∃ A, w.heap.size = A := ⟨_, rfl⟩
  rw [hA] at r0 m0 hat
  have hs2 : ∀ W, Row W A 27 sc → SB W (.slice (some ⟨A, 2, none⟩) 32 32) r := by
    intro W h
    refine .inr ⟨_, 32, by rw [hr], by rw [hr]; omega, by omega, fun _ => ⟨A, 2, rfl, fun j hj => ?_⟩⟩
    exact (hat W h).2.2.1 j _ (enc8_get r j hj)
  have hs3 : ∀ W, Row W A 27 sc → SB W (.slice (some ⟨A, 34, none⟩) 32 32) p := by
    intro W h
    refine .inr ⟨_, 32, by rw [hp], by rw [hp]; omega, by omega, fun _ => ⟨A, 34, rfl, fun j hj => ?_⟩⟩
    exact (hat W h).2.2.2 j _ (enc8_get p j hj)
  have hc01 : ∀ W, Row W A 27 sc → W.cell? ⟨A, 0, none⟩ = some (.int .i64 s) ∧ W.cell? ⟨A, 1, none⟩ = some (.int .i64 c) := fun W h => ⟨(hat W h).1, (hat W h).2.1⟩
  have R0 := Lib.hid r0
  have M0 := Lib.hid m0
  have HS2 := Lib.hid hs2
  have HS3 := Lib.hid hs3
  have HC := Lib.hid hc01
  have HRL := Lib.hid hr
  have HPL := Lib.hid hp
  clear r0 m0 hat hs2 hs3 hc01 hr hp hsi hso hsc hl66
  go_enter Try.func15, Try.ntmps15
  go_wp2_with fail
  refine wp_region_noPanic ?_
  refine wp_region_held_drew (S := (fun w' => Mine A w w' ∧ Row w' A 27 sc)) (by kernel_rfl) ?_ (fun hHeld => ?_)
  · exact ⟨⟨M0.out.le, M0.out.bel.drew⟩, R0.out⟩
  refine wpAnyH_take (i := 0) (oi := { dst := some 3, op := Op.fieldAddr 27 (Operand.tmp 1) 0, type := 0, pos := "ref.go:30", after := #[], guard := none }) (v := ?v0_0) rfl (by kernel_rfl) (by kernel_rfl) (by kernel_rfl) (fun _ _ _ h => h) (Or.inl ⟨by rfl, ?y0_0⟩) (by assumption) ?r0_0
  case y0_0 => intro w hSw; (try dsimp only at hSw); go_simp; try with_reducible rfl
  try simp only [Act.put, List.setIfInBounds_toArray, List.set_cons_zero, List.set_cons_succ]
  refine wpAnyH_take (i := 1) (oi := { dst := some 4, op := Op.load 3 (Operand.tmp 3), type := 3, pos := "ref.go:30", after := #[{ on := 0, ground := Ground.data }], guard := none }) (v := ?v1_1) rfl (by kernel_rfl) (by kernel_rfl) (by kernel_rfl) (fun _ _ _ h => h) (Or.inl ⟨by rfl, ?y1_1⟩) (by assumption) ?r1_1
  case y1_1 => intro w hSw; (try dsimp only at hSw); have hcc := (HC.out _ hSw.2).1; go_simp; try with_reducible rfl
  try simp only [Act.put, List.setIfInBounds_toArray, List.set_cons_zero, List.set_cons_succ]
  refine wpAnyH_take (i := 3) (oi := { dst := some 6, op := Op.fieldAddr 27 (Operand.tmp 1) 1, type := 0, pos := "ref.go:30", after := #[], guard := none }) (v := ?v3_2) rfl (by kernel_rfl) (by kernel_rfl) (by kernel_rfl) (fun _ _ _ h => h) (Or.inl ⟨by rfl, ?y3_2⟩) (by assumption) ?r3_2
  case y3_2 => intro w hSw; (try dsimp only at hSw); go_simp; try with_reducible rfl
  try simp only [Act.put, List.setIfInBounds_toArray, List.set_cons_zero, List.set_cons_succ]
  refine wpAnyH_take (i := 4) (oi := { dst := some 7, op := Op.load 3 (Operand.tmp 6), type := 3, pos := "ref.go:30", after := #[{ on := 3, ground := Ground.data }], guard := none }) (v := ?v4_3) rfl (by kernel_rfl) (by kernel_rfl) (by kernel_rfl) (fun _ _ _ h => h) (Or.inl ⟨by rfl, ?y4_3⟩) (by assumption) ?r4_3
  case y4_3 => intro w hSw; (try dsimp only at hSw); have hcc := (HC.out _ hSw.2).2; go_simp; try with_reducible rfl
  try simp only [Act.put, List.setIfInBounds_toArray, List.set_cons_zero, List.set_cons_succ]
  refine wpAnyH_take (i := 7) (oi := { dst := some 10, op := Op.fieldAddr 27 (Operand.tmp 1) 2, type := 0, pos := "ref.go:30", after := #[], guard := none }) (v := ?v7_4) rfl (by kernel_rfl) (by kernel_rfl) (by kernel_rfl) (fun _ _ _ h => h) (Or.inl ⟨by rfl, ?y7_4⟩) (by assumption) ?r7_4
  case y7_4 => intro w hSw; (try dsimp only at hSw); go_simp; try with_reducible rfl
  try simp only [Act.put, List.setIfInBounds_toArray, List.set_cons_zero, List.set_cons_succ]
  refine wpAnyH_take (i := 8) (oi := { dst := some 11, op := Op.slice 23 (Operand.tmp 10) none none none, type := 34, pos := "ref.go:30", after := #[{ on := 7, ground := Ground.data }], guard := none }) (v := ?v8_5) rfl (by kernel_rfl) (by kernel_rfl) (by kernel_rfl) (fun _ _ _ h => h) (Or.inl ⟨by rfl, ?y8_5⟩) (by assumption) ?r8_5
  case y8_5 => intro w hSw; (try dsimp only at hSw); go_simp; try with_reducible rfl
  try simp only [Act.put, List.setIfInBounds_toArray, List.set_cons_zero, List.set_cons_succ]
  refine wpAnyH_take (i := 10) (oi := { dst := some 13, op := Op.fieldAddr 27 (Operand.tmp 1) 3, type := 0, pos := "ref.go:30", after := #[], guard := none }) (v := ?v10_6) rfl (by kernel_rfl) (by kernel_rfl) (by kernel_rfl) (fun _ _ _ h => h) (Or.inl ⟨by rfl, ?y10_6⟩) (by assumption) ?r10_6
  case y10_6 => intro w hSw; (try dsimp only at hSw); go_simp; try with_reducible rfl
  try simp only [Act.put, List.setIfInBounds_toArray, List.set_cons_zero, List.set_cons_succ]
  refine wpAnyH_take (i := 11) (oi := { dst := some 14, op := Op.slice 23 (Operand.tmp 13) none none none, type := 34, pos := "ref.go:30", after := #[{ on := 10, ground := Ground.data }], guard := none }) (v := ?v11_7) rfl (by kernel_rfl) (by kernel_rfl) (by kernel_rfl) (fun _ _ _ h => h) (Or.inl ⟨by rfl, ?y11_7⟩) (by assumption) ?r11_7
  case y11_7 => intro w hSw; (try dsimp only at hSw); go_simp; try with_reducible rfl
  try simp only [Act.put, List.setIfInBounds_toArray, List.set_cons_zero, List.set_cons_succ]
  refine wpAnyH_ready (rs := [2]) (by kernel_rfl) (by simp) (AllReadyH.cons (o := { dst := some 5, op := Op.call { callee := Callee.value (Operand.func 29), args := #[Operand.tmp 4], argTypes := #[3] }, type := 34, pos := "ref.go:30", after := #[{ on := 1, ground := Ground.data }], guard := none }) rfl (fun K hK => ?_) AllReadyH.nil)
  go_simp
  refine (four_any s _).mono ?_; rintro e w1 ⟨u1, rfl, ho1, hb1⟩; have HO1 := ho1.mono (B' := A + 1) hHeld.2.lt
  go_wp2_with fail
  refine hK.out _ _ ?_ (fun hHeld => ?_)
  · (try dsimp only); (go_split_ands; (repeat' apply And.intro) <;> first | assumption | exact Mine.call (by assumption) (by assumption) | exact Mine.alloc (by assumption) _ | exact Mine.setCells (by assumption) _ _ _ (by omega) | exact Mine.callN (by assumption) (by assumption) (by omega) | exact Row.belowN (by assumption) (by assumption) (by omega) | exact there_belowN (by assumption) (by assumption) (by omega) | exact rangeAt_below (by assumption) (by assumption) | exact World.rangeAt_alloc (by assumption) _ | exact World.rangeAt_setCells_apart (by assumption) _ _ _ (Or.inl (by omega)) | exact there_below (by assumption) (by assumption) | exact World.there_alloc (by assumption) _ | exact World.there_setCells (by assumption) _ _ _ | exact Row.belowS (by assumption) (by assumption) | exact Row.alloc (by assumption) _ | exact Row.setCells (by assumption) _ _ (by omega) | exact HS.below (by assumption) (by assumption) | exact HS.alloc (by assumption) _)
  clear hK K
  try simp only [Act.put, List.setIfInBounds_toArray, List.set_cons_zero, List.set_cons_succ]
  refine wpAnyH_ready (rs := [5]) (by kernel_rfl) (by simp) (AllReadyH.cons (o := { dst := some 8, op := Op.call { callee := Callee.value (Operand.func 29), args := #[Operand.tmp 7], argTypes := #[3] }, type := 34, pos := "ref.go:30", after := #[{ on := 4, ground := Ground.data }, { on := 2, ground := Ground.chain }], guard := none }) rfl (fun K hK => ?_) AllReadyH.nil)
  go_simp
  refine (four_any c _).mono ?_; rintro e w2 ⟨u2, rfl, ho2, hb2⟩; have HO2 := ho2.reads
  go_wp2_with fail
  refine hK.out _ _ ?_ (fun hHeld => ?_)
  · (try dsimp only); (go_split_ands; (repeat' apply And.intro) <;> first | assumption | exact Mine.call (by assumption) (by assumption) | exact Mine.alloc (by assumption) _ | exact Mine.setCells (by assumption) _ _ _ (by omega) | exact Mine.callN (by assumption) (by assumption) (by omega) | exact Row.belowN (by assumption) (by assumption) (by omega) | exact there_belowN (by assumption) (by assumption) (by omega) | exact rangeAt_below (by assumption) (by assumption) | exact World.rangeAt_alloc (by assumption) _ | exact World.rangeAt_setCells_apart (by assumption) _ _ _ (Or.inl (by omega)) | exact there_below (by assumption) (by assumption) | exact World.there_alloc (by assumption) _ | exact World.there_setCells (by assumption) _ _ _ | exact Row.belowS (by assumption) (by assumption) | exact Row.alloc (by assumption) _ | exact Row.setCells (by assumption) _ _ (by omega) | exact HS.below (by assumption) (by assumption) | exact HS.alloc (by assumption) _)
  clear hK K
  try simp only [Act.put, List.setIfInBounds_toArray, List.set_cons_zero, List.set_cons_succ]
  refine wpAnyH_ready (rs := [6]) (by kernel_rfl) (by simp) (AllReadyH.cons (o := { dst := some 9, op := Op.call { callee := Callee.builtin Builtin.append, args := #[Operand.tmp 5, Operand.tmp 8], argTypes := #[34, 34] }, type := 34, pos := "ref.go:30", after := #[{ on := 2, ground := Ground.data }, { on := 5, ground := Ground.data }, { on := 5, ground := Ground.chain }], guard := none }) rfl (fun K hK => ?_) AllReadyH.nil)
  refine stepB_append rfl (.tmp 5) (.tmp 8) rfl (A + 1) _ _ (bs4 s) (bs4 c) rfl (HO1.below hb2) rfl HO2 (by simp [bs4]) hHeld.2.lt ?_; intro v3 w3 own3 hg3 hb3
  refine hK.out _ _ ?_ (fun hHeld => ?_)
  · (try dsimp only); (go_split_ands; (repeat' apply And.intro) <;> first | assumption | exact Mine.call (by assumption) (by assumption) | exact Mine.alloc (by assumption) _ | exact Mine.setCells (by assumption) _ _ _ (by omega) | exact Mine.callN (by assumption) (by assumption) (by omega) | exact Row.belowN (by assumption) (by assumption) (by omega) | exact there_belowN (by assumption) (by assumption) (by omega) | exact rangeAt_below (by assumption) (by assumption) | exact World.rangeAt_alloc (by assumption) _ | exact World.rangeAt_setCells_apart (by assumption) _ _ _ (Or.inl (by omega)) | exact there_below (by assumption) (by assumption) | exact World.there_alloc (by assumption) _ | exact World.there_setCells (by assumption) _ _ _ | exact Row.belowS (by assumption) (by assumption) | exact Row.alloc (by assumption) _ | exact Row.setCells (by assumption) _ _ (by omega) | exact HS.below (by assumption) (by assumption) | exact HS.alloc (by assumption) _)
  clear hK K
  try simp only [Act.put, List.setIfInBounds_toArray, List.set_cons_zero, List.set_cons_succ]
  refine wpAnyH_ready (rs := [9]) (by kernel_rfl) (by simp) (AllReadyH.cons (o := { dst := some 12, op := Op.call { callee := Callee.builtin Builtin.append, args := #[Operand.tmp 9, Operand.tmp 11], argTypes := #[34, 34] }, type := 34, pos := "ref.go:30", after := #[{ on := 6, ground := Ground.data }, { on := 8, ground := Ground.data }, { on := 6, ground := Ground.chain }], guard := none }) rfl (fun K hK => ?_) AllReadyH.nil)
  refine stepB_append rfl (.tmp 9) (.tmp 11) rfl (A + 1) _ _ (bs4 s ++ bs4 c) r rfl own3 rfl (HS2.out _ hHeld.2) (by simp [bs4, HRL.out]) hHeld.2.lt ?_; intro v4 w4 own4 hg4 hb4
  refine hK.out _ _ ?_ (fun hHeld => ?_)
  · (try dsimp only); (go_split_ands; (repeat' apply And.intro) <;> first | assumption | exact Mine.call (by assumption) (by assumption) | exact Mine.alloc (by assumption) _ | exact Mine.setCells (by assumption) _ _ _ (by omega) | exact Mine.callN (by assumption) (by assumption) (by omega) | exact Row.belowN (by assumption) (by assumption) (by omega) | exact there_belowN (by assumption) (by assumption) (by omega) | exact rangeAt_below (by assumption) (by assumption) | exact World.rangeAt_alloc (by assumption) _ | exact World.rangeAt_setCells_apart (by assumption) _ _ _ (Or.inl (by omega)) | exact there_below (by assumption) (by assumption) | exact World.there_alloc (by assumption) _ | exact World.there_setCells (by assumption) _ _ _ | exact Row.belowS (by assumption) (by assumption) | exact Row.alloc (by assumption) _ | exact Row.setCells (by assumption) _ _ (by omega) | exact HS.below (by assumption) (by assumption) | exact HS.alloc (by assumption) _)
  clear hK K
  try simp only [Act.put, List.setIfInBounds_toArray, List.set_cons_zero, List.set_cons_succ]
  refine wpAnyH_ready (rs := [12]) (by kernel_rfl) (by simp) (AllReadyH.cons (o := { dst := some 15, op := Op.call { callee := Callee.builtin Builtin.append, args := #[Operand.tmp 12, Operand.tmp 14], argTypes := #[34, 34] }, type := 34, pos := "ref.go:30", after := #[{ on := 9, ground := Ground.data }, { on := 11, ground := Ground.data }, { on := 9, ground := Ground.chain }], guard := none }) rfl (fun K hK => ?_) AllReadyH.nil)
  refine stepB_append rfl (.tmp 12) (.tmp 14) rfl (A + 1) _ _ (bs4 s ++ bs4 c ++ r) p rfl own4 rfl (HS3.out _ hHeld.2) (by simp [bs4, HRL.out, HPL.out]) hHeld.2.lt ?_; intro v5 w5 own5 hg5 hb5
  refine hK.out _ _ ?_ (fun hHeld => ?_)
  · (try dsimp only); (go_split_ands; (repeat' apply And.intro) <;> first | assumption | exact Mine.call (by assumption) (by assumption) | exact Mine.alloc (by assumption) _ | exact Mine.setCells (by assumption) _ _ _ (by omega) | exact Mine.callN (by assumption) (by assumption) (by omega) | exact Row.belowN (by assumption) (by assumption) (by omega) | exact there_belowN (by assumption) (by assumption) (by omega) | exact rangeAt_below (by assumption) (by assumption) | exact World.rangeAt_alloc (by assumption) _ | exact World.rangeAt_setCells_apart (by assumption) _ _ _ (Or.inl (by omega)) | exact there_below (by assumption) (by assumption) | exact World.there_alloc (by assumption) _ | exact World.there_setCells (by assumption) _ _ _ | exact Row.belowS (by assumption) (by assumption) | exact Row.alloc (by assumption) _ | exact Row.setCells (by assumption) _ _ (by omega) | exact HS.below (by assumption) (by assumption) | exact HS.alloc (by assumption) _)
  clear hK K
  try simp only [Act.put, List.setIfInBounds_toArray, List.set_cons_zero, List.set_cons_succ]
  refine wpAnyH_take (i := 13) (oi := { dst := some 2, op := Op.assign (Operand.tmp 15), type := 34, pos := "ref.go:30", after := #[{ on := 12, ground := Ground.data }, { on := 12, ground := Ground.chain }, { on := 0, ground := Ground.phase }, { on := 1, ground := Ground.phase }, { on := 2, ground := Ground.phase }, { on := 3, ground := Ground.phase }, { on := 4, ground := Ground.phase }, { on := 5, ground := Ground.phase }, { on := 6, ground := Ground.phase }, { on := 7, ground := Ground.phase }, { on := 8, ground := Ground.phase }, { on := 9, ground := Ground.phase }, { on := 10, ground := Ground.phase }, { on := 11, ground := Ground.phase }, { on := 12, ground := Ground.phase }], guard := none }) (v := ?v13_8) rfl (by kernel_rfl) (by kernel_rfl) (by kernel_rfl) (fun _ _ _ h => h) (Or.inl ⟨by rfl, ?y13_8⟩) (by assumption) ?r13_8
  case y13_8 => intro w hSw; (try dsimp only at hSw); go_simp; try with_reducible rfl
  try simp only [Act.put, List.setIfInBounds_toArray, List.set_cons_zero, List.set_cons_succ]
  refine wpAnyH_done (by kernel_rfl) ?_ _
  refine NoPanic.normal ?_
  have HO := Lib.hid (own5.mono (Nat.le_succ A))
  have HB := Lib.hid hHeld.1.bel
  clear hHeld own3 own4 own5 hb1 hb2 hb3 hb4 hb5 hg3 hg4 hg5 HO1 HO2 ho1 ho2
  go_wp2
  go_ret
  exact ⟨_, rfl, by rw [hA]; exact HO.out, by rw [hA]; exact HB.out⟩

set_option maxHeartbeats 2000000 in
set_option maxRecDepth 100000 in
/-- **seal.Sum** -/
theorem ssum_any (s c : Int) (r p : List UInt8) (hr : r.length = 32) (hp : p.length = 32) (w : World) :
    Calls Try.prog 16 #[.agg (sealC s c r p).toArray] w fun e w' => e = .returned (.agg (enc8 (sumL (sealB s c r p))).toArray) ∧ Below w.heap.size w w' := by
  have hby := fun w => bytes_any s c r p hr hp w
  have hlen : (sealB s c r p).length ≤ 100000 := by simp [sealB, bs4, hr, hp]
  have hol := sumL_length (sealB s c r p)
  obtain ⟨sc, hsc, hl66, hsi, hso, r0, m0, hat⟩ := seal_box w s c r p hr hp
  rw [hsc]
  simp only [hsc] at hby
  obtain ⟨A, hA⟩ : ∃ A, w.heap.size = A := ⟨_, rfl⟩
  rw [hA] at r0 m0
  obtain ⟨L, hL⟩ : ∃ L, sealB s c r p = L := ⟨_, rfl⟩
  rw [hL] at hlen hol ⊢
  simp only [hL] at hby
  have hsum := fun v w hv => dsum_any v L w hv hlen
  obtain ⟨out, hout⟩ : ∃ out, sumL L = out := ⟨_, rfl⟩
  rw [hout] at hol ⊢
  simp only [hout] at hsum
  have hi := info32 out hol
  have h1 := enc8_all out
  have ll : (enc8 out).length = 32 := by rw [enc8_len, hol]
  obtain ⟨ao, hao⟩ : ∃ ao, enc8 out = ao := ⟨_, rfl⟩
  rw [hao] at hi h1 ll ⊢
  simp only [hao] at hsum
  have HBY := Lib.hid hby
  have HSUM := Lib.hid hsum
  have R0 := Lib.hid (r0.alloc (.cells #[.int .u8 0, .int .u8 0, .int .u8 0, .int .u8 0, .int .u8 0, .int .u8 0, .int .u8 0, .int .u8 0, .int .u8 0, .int .u8 0, .int .u8 0, .int .u8 0, .int .u8 0, .int .u8 0, .int .u8 0, .int .u8 0, .int .u8 0, .int .u8 0, .int .u8 0, .int .u8 0, .int .u8 0, .int .u8 0, .int .u8 0, .int .u8 0, .int .u8 0, .int .u8 0, .int .u8 0, .int .u8 0, .int .u8 0, .int .u8 0, .int .u8 0, .int .u8 0] 23))
  have R1 : Hid (Row ((w.alloc (.cells sc.toArray 27)).alloc (.cells #[.int .u8 0, .int .u8 0, .int .u8 0, .int .u8 0, .int .u8 0, .int .u8 0, .int .u8 0, .int .u8 0, .int .u8 0, .int .u8 0, .int .u8 0, .int .u8 0, .int .u8 0, .int .u8 0, .int .u8 0, .int .u8 0, .int .u8 0, .int .u8 0, .int .u8 0, .int .u8 0, .int .u8 0, .int .u8 0, .int .u8 0, .int .u8 0, .int .u8 0, .int .u8 0, .int .u8 0, .int .u8 0, .int .u8 0, .int .u8 0, .int .u8 0, .int .u8 0] 23)) (A + 1) 23 Z32) := by
    have := Row.new (w.alloc (.cells sc.toArray 27)) #[.int .u8 0, .int .u8 0, .int .u8 0, .int .u8 0, .int .u8 0, .int .u8 0, .int .u8 0, .int .u8 0, .int .u8 0, .int .u8 0, .int .u8 0, .int .u8 0, .int .u8 0, .int .u8 0, .int .u8 0, .int .u8 0, .int .u8 0, .int .u8 0, .int .u8 0, .int .u8 0, .int .u8 0, .int .u8 0, .int .u8 0, .int .u8 0, .int .u8 0, .int .u8 0, .int .u8 0, .int .u8 0, .int .u8 0, .int .u8 0, .int .u8 0, .int .u8 0] 23
    rw [alloc_size, hA] at this
    exact this
  have M0 := Lib.hid (m0.alloc (.cells #[.int .u8 0, .int .u8 0, .int .u8 0, .int .u8 0, .int .u8 0, .int .u8 0, .int .u8 0, .int .u8 0, .int .u8 0, .int .u8 0, .int .u8 0, .int .u8 0, .int .u8 0, .int .u8 0, .int .u8 0, .int .u8 0, .int .u8 0, .int .u8 0, .int .u8 0, .int .u8 0, .int .u8 0, .int .u8 0, .int .u8 0, .int .u8 0, .int .u8 0, .int .u8 0, .int .u8 0, .int .u8 0, .int .u8 0, .int .u8 0, .int .u8 0, .int .u8 0] 23))
  have HSI := Lib.hid hsi
  have HI := Lib.hid hi
  have H1 := Lib.hid h1
  have LL := Lib.hid ll
  clear hby hsum r0 m0 hsi hi h1 ll hao hout hL hlen hol hat hsc hso hl66 hr hp
  go_enter Try.func16, Try.ntmps16
  go_wp2_with (first
    | (refine R0.out.sload rfl (.tmp 1) rfl rfl HSI.out ?_))
  refine (HBY.out _).mono ?_
  rintro e w1 ⟨u, rfl, ho, hb⟩
  have HOB := Lib.hid ho.reads
  have R2 := Lib.hid (R1.out.belowS hb)
  have M2 := Lib.hid (M0.out.call hb)
  clear ho hb
  go_wp2_with fail
  refine (HSUM.out u _ HOB.out).mono ?_
  rintro e w2 ⟨rfl, hb⟩
  have R3 := Lib.hid (R2.out.belowS hb)
  have M3 := Lib.hid (M2.out.call hb)
  have HBz := Lib.hid (below_setRow M3.out.bel (Nat.le_succ A) ao.toArray)
  clear hb
  go_wp2_with (first | (refine R3.out.store (m := ao) rfl 23 (.tmp 2) (.tmp 5) rfl rfl rfl HI.out (by rw [LL.out]; rfl) H1.out ?_))
  refine bodyPost_ret (v := .agg ao.toArray) (Row.result (R3.out.setRow ao) Try.results16 _ _ _ rfl Try.underlying23 HI.out) rfl ?_
  exact ⟨rfl, by rw [hA]; exact HBz.out⟩
set_option maxHeartbeats 2000000 in
set_option maxRecDepth 100000 in
/-- **the reference's Sum** -/
theorem tsum_any (s c : Int) (r p : List UInt8) (hr : r.length = 32) (hp : p.length = 32) (w : World) :
    Calls Try.prog 17 #[.agg (sealC s c r p).toArray] w fun e w' => e = .returned (.agg (enc8 (sumL (sealB s c r p))).toArray) ∧ Below w.heap.size w w' := by
  have hby := fun w => qbytes_any s c r p hr hp w
  have hlen : (sealB s c r p).length ≤ 100000 := by simp [sealB, bs4, hr, hp]
  have hol := sumL_length (sealB s c r p)
  obtain ⟨sc, hsc, hl66, hsi, hso, r0, m0, hat⟩ := seal_box w s c r p hr hp
  rw [hsc]
  simp only [hsc] at hby
  obtain ⟨A, hA⟩ : ∃ A, w.heap.size = A := ⟨_, rfl⟩
  rw [hA] at r0 m0
  obtain ⟨L, hL⟩ : ∃ L, sealB s c r p = L := ⟨_, rfl⟩
  rw [hL] at hlen hol ⊢
  simp only [hL] at hby
  have hsum := fun v w hv => rsum_any v L w hv hlen
  obtain ⟨out, hout⟩ : ∃ out, sumL L = out := ⟨_, rfl⟩
  rw [hout] at hol ⊢
  simp only [hout] at hsum
  have hi := info32 out hol
  have h1 := enc8_all out
  have ll : (enc8 out).length = 32 := by rw [enc8_len, hol]
  obtain ⟨ao, hao⟩ : ∃ ao, enc8 out = ao := ⟨_, rfl⟩
  rw [hao] at hi h1 ll ⊢
  simp only [hao] at hsum
  have HBY := Lib.hid hby
  have HSUM := Lib.hid hsum
  have R0 := Lib.hid (r0.alloc (.cells #[.int .u8 0, .int .u8 0, .int .u8 0, .int .u8 0, .int .u8 0, .int .u8 0, .int .u8 0, .int .u8 0, .int .u8 0, .int .u8 0, .int .u8 0, .int .u8 0, .int .u8 0, .int .u8 0, .int .u8 0, .int .u8 0, .int .u8 0, .int .u8 0, .int .u8 0, .int .u8 0, .int .u8 0, .int .u8 0, .int .u8 0, .int .u8 0, .int .u8 0, .int .u8 0, .int .u8 0, .int .u8 0, .int .u8 0, .int .u8 0, .int .u8 0, .int .u8 0] 23))
  have R1 : Hid (Row ((w.alloc (.cells sc.toArray 27)).alloc (.cells #[.int .u8 0, .int .u8 0, .int .u8 0, .int .u8 0, .int .u8 0, .int .u8 0, .int .u8 0, .int .u8 0, .int .u8 0, .int .u8 0, .int .u8 0, .int .u8 0, .int .u8 0, .int .u8 0, .int .u8 0, .int .u8 0, .int .u8 0, .int .u8 0, .int .u8 0, .int .u8 0, .int .u8 0, .int .u8 0, .int .u8 0, .int .u8 0, .int .u8 0, .int .u8 0, .int .u8 0, .int .u8 0, .int .u8 0, .int .u8 0, .int .u8 0, .int .u8 0] 23)) (A + 1) 23 Z32) := by
    have := Row.new (w.alloc (.cells sc.toArray 27)) #[.int .u8 0, .int .u8 0, .int .u8 0, .int .u8 0, .int .u8 0, .int .u8 0, .int .u8 0, .int .u8 0, .int .u8 0, .int .u8 0, .int .u8 0, .int .u8 0, .int .u8 0, .int .u8 0, .int .u8 0, .int .u8 0, .int .u8 0, .int .u8 0, .int .u8 0, .int .u8 0, .int .u8 0, .int .u8 0, .int .u8 0, .int .u8 0, .int .u8 0, .int .u8 0, .int .u8 0, .int .u8 0, .int .u8 0, .int .u8 0, .int .u8 0, .int .u8 0] 23
    rw [alloc_size, hA] at this
    exact this
  have M0 := Lib.hid (m0.alloc (.cells #[.int .u8 0, .int .u8 0, .int .u8 0, .int .u8 0, .int .u8 0, .int .u8 0, .int .u8 0, .int .u8 0, .int .u8 0, .int .u8 0, .int .u8 0, .int .u8 0, .int .u8 0, .int .u8 0, .int .u8 0, .int .u8 0, .int .u8 0, .int .u8 0, .int .u8 0, .int .u8 0, .int .u8 0, .int .u8 0, .int .u8 0, .int .u8 0, .int .u8 0, .int .u8 0, .int .u8 0, .int .u8 0, .int .u8 0, .int .u8 0, .int .u8 0, .int .u8 0] 23))
  have HSI := Lib.hid hsi
  have HI := Lib.hid hi
  have H1 := Lib.hid h1
  have LL := Lib.hid ll
  clear hby hsum r0 m0 hsi hi h1 ll hao hout hL hlen hol hat hsc hso hl66 hr hp
  go_enter Try.func17, Try.ntmps17
  go_wp2_with (first
    | (refine R0.out.sload rfl (.tmp 1) rfl rfl HSI.out ?_))
  refine (HBY.out _).mono ?_
  rintro e w1 ⟨u, rfl, ho, hb⟩
  have HOB := Lib.hid ho.reads
  have R2 := Lib.hid (R1.out.belowS hb)
  have M2 := Lib.hid (M0.out.call hb)
  clear ho hb
  go_wp2_with fail
  refine (HSUM.out u _ HOB.out).mono ?_
  rintro e w2 ⟨rfl, hb⟩
  have R3 := Lib.hid (R2.out.belowS hb)
  have M3 := Lib.hid (M2.out.call hb)
  have HBz := Lib.hid (below_setRow M3.out.bel (Nat.le_succ A) ao.toArray)
  clear hb
  go_wp2_with (first | (refine R3.out.store (m := ao) rfl 23 (.tmp 2) (.tmp 5) rfl rfl rfl HI.out (by rw [LL.out]; rfl) H1.out ?_))
  refine bodyPost_ret (v := .agg ao.toArray) (Row.result (R3.out.setRow ao) Try.results17 _ _ _ rfl Try.underlying23 HI.out) rfl ?_
  exact ⟨rfl, by rw [hA]; exact HBz.out⟩
end Go.Proofs.Ytnepmhdnkcnnmaa

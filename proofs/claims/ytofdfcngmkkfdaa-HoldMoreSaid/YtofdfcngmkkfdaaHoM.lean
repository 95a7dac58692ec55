/- HoldCovers. -/
import Derived.RangeFuncNested
import Derived.RangeFuncBound
import Derived.RangeFuncCalls
import Derived.RangeFuncLeaves
import Derived.Shelf.Abstract
import Derived.Shelf.RegionOpen
import Derived.WalkKit
import Derived.OwnWalkIn
import Derived.TacticsInMore
import Derived.LoopNIn
import Derived.LoopIn
import Derived.Outline
import Derived.Lib.Hide
import Derived.Lib.SliceRun
import Derived.IntWalk
import Derived.WalkLawsBesides
import Derived.WalkSpells
import Derived.Laws.BitsAllLaws
import Derived.Lib.ConvBytes
import Derived.Maps.AppendAt
import Derived.Lib.AppendStr
import Derived.Lib.SlBytesConst
import Derived.Laws.AppendOwnNone
import Derived.Laws.OwnMore
import Derived.Laws.BytesArg
import Derived.Deep.RegionHeld3
import Derived.BigQuiet
import Derived.Deep.RegionLaw
import Derived.Deep.QuietTactic
import Derived.Lib.OthersKept
import Derived.Test.YtofdfcngmkkfdaaProg
import Derived.Deep.DeepFit
import Derived.Test.YtofdfcngmkkfdaaHoL
set_option linter.unusedVariables false
set_option linter.unusedSimpArgs false
namespace Go.Proofs.Ytofdfcngmkkfdaa
open Go Go.RowKit Go.Shelf

theorem Row.cell2 {W : World} {b : Nat} {t : TypeId} {x y z : Value} {l : List Value} (h : Row W b t (x :: y :: z :: l)) : W.cell? ⟨b, 2, none⟩ = some z := h.cell 2
set_option maxRecDepth 100000 in
set_option maxHeartbeats 4000000 in
/-- **HoldCovers** -/
theorem holdCovers_walk (v : Value) (hs : List Ru) (ev : Value) (x : Ev) (w : World) (hv : PV w v (ruV hs) ∧ ∀ c ∈ hs, c.1.size ≤ maxLen ∧ c.2.size ≤ maxLen) (hx : ev = .agg #[.string x.1, x.2.2.1, .int .i64 x.2.2.2] ∧ TV w x.2.2.1 x.2.1 ∧ x.1.size ≤ maxLen ∧ ∀ s ∈ x.2.1, s.size ≤ maxLen) :
    Calls Try.prog 14 #[v, ev] w fun e w' => e = .returned (.bool true) ∧ Below w.heap.size w w' := by
  obtain ⟨hv, hsz⟩ := hv
  obtain ⟨fr, to, tv, at_⟩ := x
  obtain ⟨rfl, hT, hx1, hx2⟩ := hx
  dsimp only at hT hx1 hx2
  dsimp only
  have hv0 := hv
  have hT0 := hT
  obtain ⟨A, c, rfl, hc1, -⟩ := hv
  obtain ⟨At, ct, rfl, hct, -⟩ := hT
  rw [ruV_len] at hv0 hc1 ⊢
  rw [List.length_map] at hT0 hct ⊢
  obtain ⟨n, hn⟩ : ∃ n, hs.length = n := ⟨_, rfl⟩
  obtain ⟨m, hm⟩ : ∃ m, to.length = m := ⟨_, rfl⟩
  rw [hn] at hv0 hc1 ⊢
  rw [hm] at hT0 hct ⊢
  obtain ⟨B, hB⟩ : ∃ B, w.heap.size = B := ⟨_, rfl⟩
  have m0 : Mine B w (w.alloc (.cells #[.string fr, .slice At m ct, .int .i64 at_] 33)) := by rw [← hB]; exact (Mine.refl w).alloc _
  have r0 : Row (w.alloc (.cells #[.string fr, .slice At m ct, .int .i64 at_] 33)) B 33 [.string fr, .slice At m ct, .int .i64 at_] := by rw [← hB]; exact Row.new w _ _
  have h1 := fun wr (h : Mine B w wr) => covers_any (.slice A n c) hs fr to (.slice At m ct) at_ hx1 hx2 hsz wr (hv0.below (hB ▸ h.bel)) (hT0.below (hB ▸ h.bel))
  have h2 := fun wr (h : Mine B w wr) => rcovers_any (.slice A n c) hs fr to (.slice At m ct) at_ hx1 hx2 hsz wr (hv0.below (hB ▸ h.bel)) (hT0.below (hB ▸ h.bel))
  have hfw := fun w => few14_any A At n m c ct fr at_ w
  obtain ⟨b, hb⟩ : ∃ b, few14B n m = b := ⟨_, rfl⟩
  obtain ⟨q, hq⟩ : ∃ q, hs.any (covB fr to) = q := ⟨_, rfl⟩
  simp only [hb] at hfw
  simp only [hq] at h1 h2
  have HFW := Lib.hid hfw
  have H1 := Lib.hid h1
  have H2 := Lib.hid h2
  have M0 := Lib.hid m0
  have R0 := Lib.hid r0
  have ee : (q == q) = true := beq_self_eq_true _
  clear hfw hb m0 r0 h1 h2 hn hm hq hv0 hT0 hsz hx1 hx2
  go_enter Try.func14, Try.ntmps14
  go_wp2_with fail
  refine (awake14_any _).mono ?_
  rintro e w1 ⟨rfl, hb1⟩
  have M1 := Lib.hid (M0.out.call hb1)
  have R1 := Lib.hid (R0.out.belowS hb1)
  clear hb1 M0 R0
  cases b with
  | false =>
    go_wp2_with fail
    refine wp_region_noPanic ?_
    refine wp_region_held_drew (S := (fun w' => Mine B w w' ∧ w'.cell? ⟨B, 0, none⟩ = some (.string fr) ∧ w'.cell? ⟨B, 1, none⟩ = some (.slice At m ct) ∧ w'.cell? ⟨B, 2, none⟩ = some (.int .i64 at_))) (by kernel_rfl) ?_ (fun hHeld => ?_)
    · exact ⟨⟨M1.out.le, M1.out.bel.drew⟩, R1.out.cell0, R1.out.cell1, R1.out.cell2⟩
    refine wpAnyH_take (i := 0) (oi := { dst := some 7, op := Op.move (Operand.tmp 0), type := 45, pos := "law.go:60", after := #[], guard := none }) (v := ?v0_0) rfl (by kernel_rfl) (by kernel_rfl) (by kernel_rfl) (fun _ _ _ h => h) (Or.inl ⟨by rfl, ?y0_0⟩) (by assumption) ?r0_0
    case y0_0 => intro w hSw; (try dsimp only at hSw); go_simp; try with_reducible rfl
    try simp only [Act.put, List.setIfInBounds_toArray, List.set_cons_zero, List.set_cons_succ]
    refine wpAnyH_take (i := 1) (oi := { dst := some 8, op := Op.load 33 (Operand.tmp 3), type := 33, pos := "law.go:60", after := #[], guard := none }) (v := ?v1_1) rfl (by kernel_rfl) (by kernel_rfl) (by kernel_rfl) (fun _ _ _ h => h) (Or.inl ⟨by rfl, ?y1_1⟩) (by assumption) ?r1_1
    case y1_1 => intro w hSw; (try dsimp only at hSw); have c0 := hSw.2.1; have c1 := hSw.2.2.1; have c2 := hSw.2.2.2; go_simp; try with_reducible rfl
    try simp only [Act.put, List.setIfInBounds_toArray, List.set_cons_zero, List.set_cons_succ]
    refine wpAnyH_ready (rs := [2]) (by kernel_rfl) (by simp) (AllReadyH.cons (o := { dst := some 9, op := Op.call { callee := Callee.value (Operand.func 39), args := #[Operand.tmp 7, Operand.tmp 8], argTypes := #[45, 33] }, type := 4, pos := "law.go:60", after := #[{ on := 0, ground := Ground.data }, { on := 1, ground := Ground.data }], guard := none }) rfl (fun K hK => ?_) AllReadyH.nil)
    go_simp
    refine (HFW.out _).mono ?_; rintro e w2 ⟨rfl, hb2⟩
    go_wp2_with fail
    refine hK.out _ _ ?_ (fun hHeld => ?_)
    · (try dsimp only); (go_split_ands; (repeat' apply And.intro) <;> first | assumption | exact Mine.call (by assumption) (by assumption) | exact Mine.alloc (by assumption) _ | exact Mine.setCells (by assumption) _ _ _ (by omega) | exact Mine.callN (by assumption) (by assumption) (by omega) | exact Row.belowN (by assumption) (by assumption) (by omega) | exact there_belowN (by assumption) (by assumption) (by omega) | exact rangeAt_below (by assumption) (by assumption) | exact World.rangeAt_alloc (by assumption) _ | exact World.rangeAt_setCells_apart (by assumption) _ _ _ (Or.inl (by omega)) | exact there_below (by assumption) (by assumption) | exact World.there_alloc (by assumption) _ | exact World.there_setCells (by assumption) _ _ _ | exact Row.belowS (by assumption) (by assumption) | exact Row.alloc (by assumption) _ | exact Row.setCells (by assumption) _ _ (by omega) | exact HS.below (by assumption) (by assumption) | exact SB.below (by assumption) (by assumption) | exact HS.alloc (by assumption) _ | exact Box.call (by assumption) (by assumption) | exact Box.alloc (by assumption) _ | exact Box.put (by assumption) _ (by assumption) | exact cell_below (by assumption) (by assumption) | exact Lib.cell?_alloc_some _ (by assumption))
    clear hK K
    try simp only [Act.put, List.setIfInBounds_toArray, List.set_cons_zero, List.set_cons_succ]
    refine wpAnyH_take (i := 3) (oi := { dst := some 10, op := Op.unOp UnOp.not 4 (Operand.tmp 9), type := 4, pos := "law.go:60", after := #[{ on := 2, ground := Ground.data }], guard := none }) (v := ?v3_2) rfl (by kernel_rfl) (by kernel_rfl) (by kernel_rfl) (fun _ _ _ h => h) (Or.inl ⟨by rfl, ?y3_2⟩) (by assumption) ?r3_2
    case y3_2 => intro w hSw; (try dsimp only at hSw); go_simp; try with_reducible rfl
    try simp only [Act.put, List.setIfInBounds_toArray, List.set_cons_zero, List.set_cons_succ]
    refine wpAnyH_take (i := 4) (oi := { dst := some 11, op := Op.move (Operand.tmp 10), type := 4, pos := "law.go:60", after := #[{ on := 3, ground := Ground.data }, { on := 2, ground := Ground.chain }], guard := none }) (v := ?v4_3) rfl (by kernel_rfl) (by kernel_rfl) (by kernel_rfl) (fun _ _ _ h => h) (Or.inl ⟨by rfl, ?y4_3⟩) (by assumption) ?r4_3
    case y4_3 => intro w hSw; (try dsimp only at hSw); go_simp; try with_reducible rfl
    try simp only [Act.put, List.setIfInBounds_toArray, List.set_cons_zero, List.set_cons_succ]
    refine wpAnyH_take (i := 5) (oi := { dst := some 12, op := Op.move (Operand.tmp 0), type := 45, pos := "law.go:60", after := #[{ on := 4, ground := Ground.guard }], guard := some (4, false) }) (v := undef) rfl (by kernel_rfl) (by kernel_rfl) (by kernel_rfl) (fun _ _ _ h => h) (Or.inr ⟨by rfl, rfl⟩) (by assumption) ?_
    try simp only [Act.put, List.setIfInBounds_toArray, List.set_cons_zero, List.set_cons_succ]
    refine wpAnyH_take (i := 6) (oi := { dst := some 13, op := Op.load 33 (Operand.tmp 3), type := 33, pos := "law.go:60", after := #[{ on := 4, ground := Ground.guard }], guard := some (4, false) }) (v := undef) rfl (by kernel_rfl) (by kernel_rfl) (by kernel_rfl) (fun _ _ _ h => h) (Or.inr ⟨by rfl, rfl⟩) (by assumption) ?_
    try simp only [Act.put, List.setIfInBounds_toArray, List.set_cons_zero, List.set_cons_succ]
    refine wpAnyH_take (i := 7) (oi := { dst := some 14, op := Op.call { callee := Callee.value (Operand.func 43), args := #[Operand.tmp 12, Operand.tmp 13], argTypes := #[45, 33] }, type := 4, pos := "law.go:60", after := #[{ on := 5, ground := Ground.data }, { on := 6, ground := Ground.data }, { on := 4, ground := Ground.chain }, { on := 4, ground := Ground.guard }], guard := some (4, false) }) (v := undef) rfl (by kernel_rfl) (by kernel_rfl) (by kernel_rfl) (fun _ _ _ h => h) (Or.inr ⟨by rfl, rfl⟩) (by assumption) ?_
    try simp only [Act.put, List.setIfInBounds_toArray, List.set_cons_zero, List.set_cons_succ]
    refine wpAnyH_take (i := 8) (oi := { dst := some 15, op := Op.move (Operand.tmp 0), type := 45, pos := "law.go:60", after := #[{ on := 4, ground := Ground.guard }], guard := some (4, false) }) (v := undef) rfl (by kernel_rfl) (by kernel_rfl) (by kernel_rfl) (fun _ _ _ h => h) (Or.inr ⟨by rfl, rfl⟩) (by assumption) ?_
    try simp only [Act.put, List.setIfInBounds_toArray, List.set_cons_zero, List.set_cons_succ]
    refine wpAnyH_take (i := 9) (oi := { dst := some 16, op := Op.load 33 (Operand.tmp 3), type := 33, pos := "law.go:60", after := #[{ on := 4, ground := Ground.guard }], guard := some (4, false) }) (v := undef) rfl (by kernel_rfl) (by kernel_rfl) (by kernel_rfl) (fun _ _ _ h => h) (Or.inr ⟨by rfl, rfl⟩) (by assumption) ?_
    try simp only [Act.put, List.setIfInBounds_toArray, List.set_cons_zero, List.set_cons_succ]
    refine wpAnyH_take (i := 10) (oi := { dst := some 17, op := Op.call { callee := Callee.value (Operand.func 44), args := #[Operand.tmp 15, Operand.tmp 16], argTypes := #[45, 33] }, type := 4, pos := "law.go:60", after := #[{ on := 8, ground := Ground.data }, { on := 9, ground := Ground.data }, { on := 7, ground := Ground.chain }, { on := 4, ground := Ground.guard }], guard := some (4, false) }) (v := undef) rfl (by kernel_rfl) (by kernel_rfl) (by kernel_rfl) (fun _ _ _ h => h) (Or.inr ⟨by rfl, rfl⟩) (by assumption) ?_
    try simp only [Act.put, List.setIfInBounds_toArray, List.set_cons_zero, List.set_cons_succ]
    refine wpAnyH_take (i := 11) (oi := { dst := some 18, op := Op.binOp BinOp.eql 4 (Operand.tmp 14) (Operand.tmp 17) 4, type := 4, pos := "law.go:60", after := #[{ on := 7, ground := Ground.data }, { on := 10, ground := Ground.data }, { on := 4, ground := Ground.guard }], guard := some (4, false) }) (v := undef) rfl (by kernel_rfl) (by kernel_rfl) (by kernel_rfl) (fun _ _ _ h => h) (Or.inr ⟨by rfl, rfl⟩) (by assumption) ?_
    try simp only [Act.put, List.setIfInBounds_toArray, List.set_cons_zero, List.set_cons_succ]
    refine wpAnyH_take (i := 12) (oi := { dst := some 19, op := Op.pick (Operand.tmp 11) (Operand.const (Value.bool true)) (Operand.tmp 18), type := 4, pos := "law.go:60", after := #[{ on := 4, ground := Ground.data }, { on := 11, ground := Ground.data }], guard := none }) (v := ?v12_4) rfl (by kernel_rfl) (by kernel_rfl) (by kernel_rfl) (fun _ _ _ h => h) (Or.inl ⟨by rfl, ?y12_4⟩) (by assumption) ?r12_4
    case y12_4 => intro w hSw; (try dsimp only at hSw); go_simp; try with_reducible rfl
    try simp only [Act.put, List.setIfInBounds_toArray, List.set_cons_zero, List.set_cons_succ]
    refine wpAnyH_take (i := 13) (oi := { dst := some 4, op := Op.assign (Operand.tmp 19), type := 4, pos := "law.go:60", after := #[{ on := 12, ground := Ground.data }, { on := 10, ground := Ground.chain }, { on := 0, ground := Ground.phase }, { on := 1, ground := Ground.phase }, { on := 2, ground := Ground.phase }, { on := 3, ground := Ground.phase }, { on := 4, ground := Ground.phase }, { on := 5, ground := Ground.phase }, { on := 6, ground := Ground.phase }, { on := 7, ground := Ground.phase }, { on := 8, ground := Ground.phase }, { on := 9, ground := Ground.phase }, { on := 10, ground := Ground.phase }, { on := 11, ground := Ground.phase }, { on := 12, ground := Ground.phase }], guard := none }) (v := ?v13_5) rfl (by kernel_rfl) (by kernel_rfl) (by kernel_rfl) (fun _ _ _ h => h) (Or.inl ⟨by rfl, ?y13_5⟩) (by assumption) ?r13_5
    case y13_5 => intro w hSw; (try dsimp only at hSw); go_simp; try with_reducible rfl
    try simp only [Act.put, List.setIfInBounds_toArray, List.set_cons_zero, List.set_cons_succ]
    refine wpAnyH_done (by kernel_rfl) ?_ _
    refine NoPanic.normal ?_
    have hfin := Lib.hid hHeld.1.bel
    go_wp2
    go_ret
    exact ⟨rfl, by first | exact hfin.out | (rw [hB]; exact hfin.out)⟩
  | true =>
    go_wp2_with fail
    refine wp_region_noPanic ?_
    refine wp_region_held_drew (S := (fun w' => Mine B w w' ∧ w'.cell? ⟨B, 0, none⟩ = some (.string fr) ∧ w'.cell? ⟨B, 1, none⟩ = some (.slice At m ct) ∧ w'.cell? ⟨B, 2, none⟩ = some (.int .i64 at_))) (by kernel_rfl) ?_ (fun hHeld => ?_)
    · exact ⟨⟨M1.out.le, M1.out.bel.drew⟩, R1.out.cell0, R1.out.cell1, R1.out.cell2⟩
    refine wpAnyH_take (i := 0) (oi := { dst := some 7, op := Op.move (Operand.tmp 0), type := 45, pos := "law.go:60", after := #[], guard := none }) (v := ?v0_6) rfl (by kernel_rfl) (by kernel_rfl) (by kernel_rfl) (fun _ _ _ h => h) (Or.inl ⟨by rfl, ?y0_6⟩) (by assumption) ?r0_6
    case y0_6 => intro w hSw; (try dsimp only at hSw); go_simp; try with_reducible rfl
    try simp only [Act.put, List.setIfInBounds_toArray, List.set_cons_zero, List.set_cons_succ]
    refine wpAnyH_take (i := 1) (oi := { dst := some 8, op := Op.load 33 (Operand.tmp 3), type := 33, pos := "law.go:60", after := #[], guard := none }) (v := ?v1_7) rfl (by kernel_rfl) (by kernel_rfl) (by kernel_rfl) (fun _ _ _ h => h) (Or.inl ⟨by rfl, ?y1_7⟩) (by assumption) ?r1_7
    case y1_7 => intro w hSw; (try dsimp only at hSw); have c0 := hSw.2.1; have c1 := hSw.2.2.1; have c2 := hSw.2.2.2; go_simp; try with_reducible rfl
    try simp only [Act.put, List.setIfInBounds_toArray, List.set_cons_zero, List.set_cons_succ]
    refine wpAnyH_ready (rs := [2]) (by kernel_rfl) (by simp) (AllReadyH.cons (o := { dst := some 9, op := Op.call { callee := Callee.value (Operand.func 39), args := #[Operand.tmp 7, Operand.tmp 8], argTypes := #[45, 33] }, type := 4, pos := "law.go:60", after := #[{ on := 0, ground := Ground.data }, { on := 1, ground := Ground.data }], guard := none }) rfl (fun K hK => ?_) AllReadyH.nil)
    go_simp
    refine (HFW.out _).mono ?_; rintro e w2 ⟨rfl, hb2⟩
    go_wp2_with fail
    refine hK.out _ _ ?_ (fun hHeld => ?_)
    · (try dsimp only); (go_split_ands; (repeat' apply And.intro) <;> first | assumption | exact Mine.call (by assumption) (by assumption) | exact Mine.alloc (by assumption) _ | exact Mine.setCells (by assumption) _ _ _ (by omega) | exact Mine.callN (by assumption) (by assumption) (by omega) | exact Row.belowN (by assumption) (by assumption) (by omega) | exact there_belowN (by assumption) (by assumption) (by omega) | exact rangeAt_below (by assumption) (by assumption) | exact World.rangeAt_alloc (by assumption) _ | exact World.rangeAt_setCells_apart (by assumption) _ _ _ (Or.inl (by omega)) | exact there_below (by assumption) (by assumption) | exact World.there_alloc (by assumption) _ | exact World.there_setCells (by assumption) _ _ _ | exact Row.belowS (by assumption) (by assumption) | exact Row.alloc (by assumption) _ | exact Row.setCells (by assumption) _ _ (by omega) | exact HS.below (by assumption) (by assumption) | exact SB.below (by assumption) (by assumption) | exact HS.alloc (by assumption) _ | exact Box.call (by assumption) (by assumption) | exact Box.alloc (by assumption) _ | exact Box.put (by assumption) _ (by assumption) | exact cell_below (by assumption) (by assumption) | exact Lib.cell?_alloc_some _ (by assumption))
    clear hK K
    try simp only [Act.put, List.setIfInBounds_toArray, List.set_cons_zero, List.set_cons_succ]
    refine wpAnyH_take (i := 3) (oi := { dst := some 10, op := Op.unOp UnOp.not 4 (Operand.tmp 9), type := 4, pos := "law.go:60", after := #[{ on := 2, ground := Ground.data }], guard := none }) (v := ?v3_8) rfl (by kernel_rfl) (by kernel_rfl) (by kernel_rfl) (fun _ _ _ h => h) (Or.inl ⟨by rfl, ?y3_8⟩) (by assumption) ?r3_8
    case y3_8 => intro w hSw; (try dsimp only at hSw); go_simp; try with_reducible rfl
    try simp only [Act.put, List.setIfInBounds_toArray, List.set_cons_zero, List.set_cons_succ]
    refine wpAnyH_take (i := 4) (oi := { dst := some 11, op := Op.move (Operand.tmp 10), type := 4, pos := "law.go:60", after := #[{ on := 3, ground := Ground.data }, { on := 2, ground := Ground.chain }], guard := none }) (v := ?v4_9) rfl (by kernel_rfl) (by kernel_rfl) (by kernel_rfl) (fun _ _ _ h => h) (Or.inl ⟨by rfl, ?y4_9⟩) (by assumption) ?r4_9
    case y4_9 => intro w hSw; (try dsimp only at hSw); go_simp; try with_reducible rfl
    try simp only [Act.put, List.setIfInBounds_toArray, List.set_cons_zero, List.set_cons_succ]
    refine wpAnyH_take (i := 5) (oi := { dst := some 12, op := Op.move (Operand.tmp 0), type := 45, pos := "law.go:60", after := #[{ on := 4, ground := Ground.guard }], guard := some (4, false) }) (v := ?v5_10) rfl (by kernel_rfl) (by kernel_rfl) (by kernel_rfl) (fun _ _ _ h => h) (Or.inl ⟨by rfl, ?y5_10⟩) (by assumption) ?r5_10
    case y5_10 => intro w hSw; (try dsimp only at hSw); go_simp; try with_reducible rfl
    try simp only [Act.put, List.setIfInBounds_toArray, List.set_cons_zero, List.set_cons_succ]
    refine wpAnyH_take (i := 6) (oi := { dst := some 13, op := Op.load 33 (Operand.tmp 3), type := 33, pos := "law.go:60", after := #[{ on := 4, ground := Ground.guard }], guard := some (4, false) }) (v := ?v6_11) rfl (by kernel_rfl) (by kernel_rfl) (by kernel_rfl) (fun _ _ _ h => h) (Or.inl ⟨by rfl, ?y6_11⟩) (by assumption) ?r6_11
    case y6_11 => intro w hSw; (try dsimp only at hSw); have c0 := hSw.2.1; have c1 := hSw.2.2.1; have c2 := hSw.2.2.2; go_simp; try with_reducible rfl
    try simp only [Act.put, List.setIfInBounds_toArray, List.set_cons_zero, List.set_cons_succ]
    refine wpAnyH_take (i := 8) (oi := { dst := some 15, op := Op.move (Operand.tmp 0), type := 45, pos := "law.go:60", after := #[{ on := 4, ground := Ground.guard }], guard := some (4, false) }) (v := ?v8_12) rfl (by kernel_rfl) (by kernel_rfl) (by kernel_rfl) (fun _ _ _ h => h) (Or.inl ⟨by rfl, ?y8_12⟩) (by assumption) ?r8_12
    case y8_12 => intro w hSw; (try dsimp only at hSw); go_simp; try with_reducible rfl
    try simp only [Act.put, List.setIfInBounds_toArray, List.set_cons_zero, List.set_cons_succ]
    refine wpAnyH_take (i := 9) (oi := { dst := some 16, op := Op.load 33 (Operand.tmp 3), type := 33, pos := "law.go:60", after := #[{ on := 4, ground := Ground.guard }], guard := some (4, false) }) (v := ?v9_13) rfl (by kernel_rfl) (by kernel_rfl) (by kernel_rfl) (fun _ _ _ h => h) (Or.inl ⟨by rfl, ?y9_13⟩) (by assumption) ?r9_13
    case y9_13 => intro w hSw; (try dsimp only at hSw); have c0 := hSw.2.1; have c1 := hSw.2.2.1; have c2 := hSw.2.2.2; go_simp; try with_reducible rfl
    try simp only [Act.put, List.setIfInBounds_toArray, List.set_cons_zero, List.set_cons_succ]
    refine wpAnyH_ready (rs := [7]) (by kernel_rfl) (by simp) (AllReadyH.cons (o := { dst := some 14, op := Op.call { callee := Callee.value (Operand.func 43), args := #[Operand.tmp 12, Operand.tmp 13], argTypes := #[45, 33] }, type := 4, pos := "law.go:60", after := #[{ on := 5, ground := Ground.data }, { on := 6, ground := Ground.data }, { on := 4, ground := Ground.chain }, { on := 4, ground := Ground.guard }], guard := some (4, false) }) rfl (fun K hK => ?_) AllReadyH.nil)
    go_simp
    refine (H1.out _ hHeld.1).mono ?_; rintro e w3 ⟨rfl, hb3⟩
    go_wp2_with fail
    refine hK.out _ _ ?_ (fun hHeld => ?_)
    · (try dsimp only); (go_split_ands; (repeat' apply And.intro) <;> first | assumption | exact Mine.call (by assumption) (by assumption) | exact Mine.alloc (by assumption) _ | exact Mine.setCells (by assumption) _ _ _ (by omega) | exact Mine.callN (by assumption) (by assumption) (by omega) | exact Row.belowN (by assumption) (by assumption) (by omega) | exact there_belowN (by assumption) (by assumption) (by omega) | exact rangeAt_below (by assumption) (by assumption) | exact World.rangeAt_alloc (by assumption) _ | exact World.rangeAt_setCells_apart (by assumption) _ _ _ (Or.inl (by omega)) | exact there_below (by assumption) (by assumption) | exact World.there_alloc (by assumption) _ | exact World.there_setCells (by assumption) _ _ _ | exact Row.belowS (by assumption) (by assumption) | exact Row.alloc (by assumption) _ | exact Row.setCells (by assumption) _ _ (by omega) | exact HS.below (by assumption) (by assumption) | exact SB.below (by assumption) (by assumption) | exact HS.alloc (by assumption) _ | exact Box.call (by assumption) (by assumption) | exact Box.alloc (by assumption) _ | exact Box.put (by assumption) _ (by assumption) | exact cell_below (by assumption) (by assumption) | exact Lib.cell?_alloc_some _ (by assumption))
    clear hK K
    try simp only [Act.put, List.setIfInBounds_toArray, List.set_cons_zero, List.set_cons_succ]
    refine wpAnyH_ready (rs := [10]) (by kernel_rfl) (by simp) (AllReadyH.cons (o := { dst := some 17, op := Op.call { callee := Callee.value (Operand.func 44), args := #[Operand.tmp 15, Operand.tmp 16], argTypes := #[45, 33] }, type := 4, pos := "law.go:60", after := #[{ on := 8, ground := Ground.data }, { on := 9, ground := Ground.data }, { on := 7, ground := Ground.chain }, { on := 4, ground := Ground.guard }], guard := some (4, false) }) rfl (fun K hK => ?_) AllReadyH.nil)
    go_simp
    refine (H2.out _ hHeld.1).mono ?_; rintro e w4 ⟨rfl, hb4⟩
    go_wp2_with fail
    refine hK.out _ _ ?_ (fun hHeld => ?_)
    · (try dsimp only); (go_split_ands; (repeat' apply And.intro) <;> first | assumption | exact Mine.call (by assumption) (by assumption) | exact Mine.alloc (by assumption) _ | exact Mine.setCells (by assumption) _ _ _ (by omega) | exact Mine.callN (by assumption) (by assumption) (by omega) | exact Row.belowN (by assumption) (by assumption) (by omega) | exact there_belowN (by assumption) (by assumption) (by omega) | exact rangeAt_below (by assumption) (by assumption) | exact World.rangeAt_alloc (by assumption) _ | exact World.rangeAt_setCells_apart (by assumption) _ _ _ (Or.inl (by omega)) | exact there_below (by assumption) (by assumption) | exact World.there_alloc (by assumption) _ | exact World.there_setCells (by assumption) _ _ _ | exact Row.belowS (by assumption) (by assumption) | exact Row.alloc (by assumption) _ | exact Row.setCells (by assumption) _ _ (by omega) | exact HS.below (by assumption) (by assumption) | exact SB.below (by assumption) (by assumption) | exact HS.alloc (by assumption) _ | exact Box.call (by assumption) (by assumption) | exact Box.alloc (by assumption) _ | exact Box.put (by assumption) _ (by assumption) | exact cell_below (by assumption) (by assumption) | exact Lib.cell?_alloc_some _ (by assumption))
    clear hK K
    try simp only [Act.put, List.setIfInBounds_toArray, List.set_cons_zero, List.set_cons_succ]
    refine wpAnyH_take (i := 11) (oi := { dst := some 18, op := Op.binOp BinOp.eql 4 (Operand.tmp 14) (Operand.tmp 17) 4, type := 4, pos := "law.go:60", after := #[{ on := 7, ground := Ground.data }, { on := 10, ground := Ground.data }, { on := 4, ground := Ground.guard }], guard := some (4, false) }) (v := ?v11_14) rfl (by kernel_rfl) (by kernel_rfl) (by kernel_rfl) (fun _ _ _ h => h) (Or.inl ⟨by rfl, ?y11_14⟩) (by assumption) ?r11_14
    case y11_14 => intro w hSw; (try dsimp only at hSw); go_simp; try with_reducible rfl
    try simp only [Act.put, List.setIfInBounds_toArray, List.set_cons_zero, List.set_cons_succ]
    refine wpAnyH_take (i := 12) (oi := { dst := some 19, op := Op.pick (Operand.tmp 11) (Operand.const (Value.bool true)) (Operand.tmp 18), type := 4, pos := "law.go:60", after := #[{ on := 4, ground := Ground.data }, { on := 11, ground := Ground.data }], guard := none }) (v := ?v12_15) rfl (by kernel_rfl) (by kernel_rfl) (by kernel_rfl) (fun _ _ _ h => h) (Or.inl ⟨by rfl, ?y12_15⟩) (by assumption) ?r12_15
    case y12_15 => intro w hSw; (try dsimp only at hSw); go_simp; try with_reducible rfl
    try simp only [Act.put, List.setIfInBounds_toArray, List.set_cons_zero, List.set_cons_succ]
    refine wpAnyH_take (i := 13) (oi := { dst := some 4, op := Op.assign (Operand.tmp 19), type := 4, pos := "law.go:60", after := #[{ on := 12, ground := Ground.data }, { on := 10, ground := Ground.chain }, { on := 0, ground := Ground.phase }, { on := 1, ground := Ground.phase }, { on := 2, ground := Ground.phase }, { on := 3, ground := Ground.phase }, { on := 4, ground := Ground.phase }, { on := 5, ground := Ground.phase }, { on := 6, ground := Ground.phase }, { on := 7, ground := Ground.phase }, { on := 8, ground := Ground.phase }, { on := 9, ground := Ground.phase }, { on := 10, ground := Ground.phase }, { on := 11, ground := Ground.phase }, { on := 12, ground := Ground.phase }], guard := none }) (v := ?v13_16) rfl (by kernel_rfl) (by kernel_rfl) (by kernel_rfl) (fun _ _ _ h => h) (Or.inl ⟨by rfl, ?y13_16⟩) (by assumption) ?r13_16
    case y13_16 => intro w hSw; (try dsimp only at hSw); go_simp; try with_reducible rfl
    try simp only [Act.put, List.setIfInBounds_toArray, List.set_cons_zero, List.set_cons_succ]
    refine wpAnyH_done (by kernel_rfl) ?_ _
    refine NoPanic.normal ?_
    have hfin := Lib.hid hHeld.1.bel
    go_wp2
    go_ret
    exact ⟨rfl, by first | exact hfin.out | (rw [hB]; exact hfin.out)⟩
end Go.Proofs.Ytofdfcngmkkfdaa

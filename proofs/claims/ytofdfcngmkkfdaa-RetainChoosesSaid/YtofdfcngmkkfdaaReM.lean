/- RetainChooses. -/
import Derived.RangeFuncNested
import Derived.RangeFuncBound
import Derived.RangeFuncCalls
import Derived.RangeFuncLeaves
import Derived.Shelf.Abstract
import Derived.Shelf.RegionOpen
import Derived.WalkKit
import Derived.OwnWalkIn
import Derived.TacticsInMore
import Derived.LoopNIn
import Derived.LoopIn
import Derived.Outline
import Derived.Lib.Hide
import Derived.Lib.SliceRun
import Derived.IntWalk
import Derived.WalkLawsBesides
import Derived.WalkSpells
import Derived.Laws.BitsAllLaws
import Derived.Lib.ConvBytes
import Derived.Maps.AppendAt
import Derived.Lib.AppendStr
import Derived.Lib.SlBytesConst
import Derived.Laws.AppendOwnNone
import Derived.Laws.OwnMore
import Derived.Laws.BytesArg
import Derived.Deep.RegionHeld3
import Derived.BigQuiet
import Derived.Deep.RegionLaw
import Derived.Deep.QuietTactic
import Derived.Lib.OthersKept
import Derived.Test.YtofdfcngmkkfdaaProg
import Derived.Deep.DeepFit
import Derived.Test.YtofdfcngmkkfdaaReL
import Derived.Test.YtofdfcngmkkfdaaHoK
import Derived.Test.YtofdfcngmkkfdaaReG
set_option linter.unusedVariables false
set_option linter.unusedSimpArgs false
namespace Go.Proofs.Ytofdfcngmkkfdaa
open Go Go.RowKit Go.Shelf

theorem Row.cell2' {W : World} {b : Nat} {t : TypeId} {x y z : Value} {l : List Value} (h : Row W b t (x :: y :: z :: l)) : W.cell? ⟨b, 2, none⟩ = some z := h.cell 2
set_option maxRecDepth 100000 in
set_option maxHeartbeats 8000000 in
/-- **RetainChooses** -/
theorem retainChooses_walk (v : Value) (cs : List Cl) (u : Value) (rs : List Ru) (ev : Value) (x : Ev) (s : ByteArray) (w : World) (hv : PV w v (clV cs) ∧ ∀ c ∈ cs, in64 c.2 ∧ c.1.size ≤ maxLen) (hu : PV w u (ruV rs) ∧ ∀ c ∈ rs, c.1.size ≤ maxLen ∧ c.2.size ≤ maxLen)
    (hx : ev = .agg #[.string x.1, x.2.2.1, .int .i64 x.2.2.2] ∧ TV w x.2.2.1 x.2.1 ∧ x.1.size ≤ maxLen ∧ ∀ s ∈ x.2.1, s.size ≤ maxLen) (hs : s.size ≤ maxLen) :
    Calls Try.prog 15 #[v, u, ev, .string s] w fun e w' => e = .returned (.bool true) ∧ Below w.heap.size w w' := by
  obtain ⟨hv, hcs⟩ := hv
  obtain ⟨hu, hrs⟩ := hu
  obtain ⟨fr, to, tv, at_⟩ := x
  obtain ⟨rfl, hT, hx1, hx2⟩ := hx
  dsimp only at hT hx1 hx2
  dsimp only
  have hv0 := hv
  have hu0 := hu
  have hT0 := hT
  obtain ⟨A, c, rfl, hc1, -⟩ := hv
  obtain ⟨Au, cu, rfl, hc2, -⟩ := hu
  obtain ⟨At, ct, rfl, hct, -⟩ := hT
  rw [clV_len] at hv0 hc1 ⊢
  rw [ruV_len] at hu0 hc2 ⊢
  rw [List.length_map] at hT0 hct ⊢
  obtain ⟨N, hN⟩ : ∃ n, cs.length = n := ⟨_, rfl⟩
  obtain ⟨n, hn⟩ : ∃ n, rs.length = n := ⟨_, rfl⟩
  obtain ⟨m, hm⟩ : ∃ m, to.length = m := ⟨_, rfl⟩
  rw [hN] at hv0 hc1 ⊢
  rw [hn] at hu0 hc2 ⊢
  rw [hm] at hT0 hct ⊢
  obtain ⟨B, hB⟩ : ∃ B, w.heap.size = B := ⟨_, rfl⟩
  have m0 : Mine B w (w.alloc (.cells #[.string fr, .slice At m ct, .int .i64 at_] 33)) := by rw [← hB]; exact (Mine.refl w).alloc _
  have r0 : Row (w.alloc (.cells #[.string fr, .slice At m ct, .int .i64 at_] 33)) B 33 [.string fr, .slice At m ct, .int .i64 at_] := by rw [← hB]; exact Row.new w _ _
  have HV : Hid (∀ wr, Mine B w wr → PV wr (.slice A N c) (clV cs)) := fun wr h => hv0.below (hB ▸ h.bel)
  have HU : Hid (∀ wr, Mine B w wr → PV wr (.slice Au n cu) (ruV rs)) := fun wr h => hu0.below (hB ▸ h.bel)
  have HT : Hid (∀ wr, Mine B w wr → TV wr (.slice At m ct) to) := fun wr h => hT0.below (hB ▸ h.bel)
  have hfw := fun w => few13_any A Au At N n m c cu ct fr at_ w
  obtain ⟨b, hb⟩ : ∃ b, few13B N n m = b := ⟨_, rfl⟩
  simp only [hb] at hfw
  have HFW := Lib.hid hfw
  have HB := Lib.hid hb
  have M0 := Lib.hid m0
  have R0 := Lib.hid r0
  have HN := Lib.hid hN
  have Hn := Lib.hid hn
  have Hm := Lib.hid hm
  clear hfw hb m0 r0 hN hn hm hv0 hu0 hT0 hcs hrs hs
  go_enter Try.func15, Try.ntmps15
  go_wp2_with fail
  refine (awake13_any _).mono ?_
  rintro e w1 ⟨rfl, hb1⟩
  have M1 := Lib.hid (M0.out.call hb1)
  have R1 := Lib.hid (R0.out.belowS hb1)
  clear hb1 M0 R0
  have c0 := R1.out.cell0
  have c1 := R1.out.cell1
  have c2 := R1.out.cell2'
  try rw [hB]
  go_wp2_with fail
  refine (HFW.out _).mono ?_
  rintro e w2 ⟨rfl, hb2⟩
  have M2 := Lib.hid (M1.out.call hb2)
  have R2 := Lib.hid (R1.out.belowS hb2)
  clear hb2 M1 R1 c0 c1 c2
  cases b with
  | false =>
    go_wp2
    go_ret
    exact ⟨rfl, by first | exact M2.out.bel | (rw [hB]; exact M2.out.bel)⟩
  | true =>
    have hl : rs.length ≤ 1000 ∧ to.length ≤ 1000 := by
      have := HB.out
      unfold few13B at this
      simp at this
      have h2 := Hn.out
      have h3 := Hm.out
      omega
    have HF1 := Lib.hid (fun W h => find_any (.slice A N c) cs s W (HV.out W h))
    have HF2 := Lib.hid (fun W h => rfind_any (.slice A N c) cs s W (HV.out W h))
    have HC1 := Lib.hid (fun W h => choose_any (.slice A N c) cs (.slice Au n cu) rs fr to (.slice At m ct) at_ W (HV.out W h) (HU.out W h) (HT.out W h) hx1 hx2 hl.2 hl.1)
    have HC2 := Lib.hid (fun W h => rchoose_any (.slice A N c) cs (.slice Au n cu) rs fr to (.slice At m ct) at_ W (HV.out W h) (HU.out W h) (HT.out W h) hx1 hx2)
    obtain ⟨nm, hnm⟩ : ∃ q, clName (findC cs s) = q := ⟨_, rfl⟩
    obtain ⟨kp, hkp⟩ : ∃ q, clKeep (findC cs s) = q := ⟨_, rfl⟩
    obtain ⟨is, his⟩ : ∃ q, (findC cs s).isSome = q := ⟨_, rfl⟩
    obtain ⟨ch, hch⟩ : ∃ q, chS cs rs fr to = q := ⟨_, rfl⟩
    rw [hnm, hkp, his] at HF1 HF2
    rw [hch] at HC1 HC2
    have ee : (is == is) = true := beq_self_eq_true _
    have e4 : (ch.toList == ch.toList) = true := beq_self_eq_true _
    clear hnm hkp his hch hl HB HN Hn Hm HV HU HT HFW
    go_wp2_with fail
    refine (HF1.out _ M2.out).mono ?_
    rintro e w3 ⟨rfl, hb3⟩
    obtain ⟨X, hX⟩ : ∃ X, w3.heap.size = X := ⟨_, rfl⟩
    have M3 := Lib.hid ((M2.out.call hb3).alloc (.cells #[.string nm, .int .i64 kp] 56))
    have R3 := Lib.hid ((R2.out.belowS hb3).alloc (.cells #[.string nm, .int .i64 kp] 56))
    have x3 := Row.new w3 #[.string nm, .int .i64 kp] 56
    rw [hX] at x3
    have X3 := Lib.hid x3
    clear hb3 x3
    go_wp2_with fail
    refine (HF2.out _ M3.out).mono ?_
    rintro e w4 ⟨rfl, hb4⟩
    obtain ⟨Y, hY⟩ : ∃ Y, w4.heap.size = Y := ⟨_, rfl⟩
    have M4 := Lib.hid ((M3.out.call hb4).alloc (.cells #[.string nm, .int .i64 kp] 56))
    have R4 := Lib.hid ((R3.out.belowS hb4).alloc (.cells #[.string nm, .int .i64 kp] 56))
    have X4 := Lib.hid ((X3.out.belowS hb4).alloc (.cells #[.string nm, .int .i64 kp] 56))
    have y4 := Row.new w4 #[.string nm, .int .i64 kp] 56
    rw [hY] at y4
    have Y4 := Lib.hid y4
    clear hb4 y4 M3 R3 X3
    try rw [hX]
    go_wp2_with fail
    try rw [hX]
    try rw [hY]
    refine wp_region_noPanic ?_
    refine wp_region_held_drew (S := (fun w' => Mine B w w' ∧ w'.cell? ⟨B, 0, none⟩ = some (.string fr) ∧ w'.cell? ⟨B, 1, none⟩ = some (.slice At m ct) ∧ w'.cell? ⟨B, 2, none⟩ = some (.int .i64 at_) ∧ w'.cell? ⟨X, 0, none⟩ = some (.string nm) ∧ w'.cell? ⟨X, 1, none⟩ = some (.int .i64 kp) ∧ w'.cell? ⟨Y, 0, none⟩ = some (.string nm) ∧ w'.cell? ⟨Y, 1, none⟩ = some (.int .i64 kp))) (by kernel_rfl) ?_ (fun hHeld => ?_)
    · exact ⟨⟨M4.out.le, M4.out.bel.drew⟩, R4.out.cell0, R4.out.cell1, R4.out.cell2', X4.out.cell0, X4.out.cell1, Y4.out.cell0, Y4.out.cell1⟩
    refine wpAnyH_take (i := 0) (oi := { dst := some 32, op := Op.load 56 (Operand.tmp 9), type := 56, pos := "law.go:39", after := #[], guard := none }) (v := ?v0_0) rfl (by kernel_rfl) (by kernel_rfl) (by kernel_rfl) (fun _ _ _ h => h) (Or.inl ⟨by rfl, ?y0_0⟩) (by assumption) ?r0_0
    case y0_0 => intro w hSw; (try dsimp only at hSw); have c0 := hSw.2.2.2.2.1; have c1 := hSw.2.2.2.2.2.1; go_simp; try with_reducible rfl
    try simp only [Act.put, List.setIfInBounds_toArray, List.set_cons_zero, List.set_cons_succ]
    refine wpAnyH_take (i := 1) (oi := { dst := some 33, op := Op.load 56 (Operand.tmp 11), type := 56, pos := "law.go:39", after := #[], guard := none }) (v := ?v1_1) rfl (by kernel_rfl) (by kernel_rfl) (by kernel_rfl) (fun _ _ _ h => h) (Or.inl ⟨by rfl, ?y1_1⟩) (by assumption) ?r1_1
    case y1_1 => intro w hSw; (try dsimp only at hSw); have c0 := hSw.2.2.2.2.2.2.1; have c1 := hSw.2.2.2.2.2.2.2; go_simp; try with_reducible rfl
    try simp only [Act.put, List.setIfInBounds_toArray, List.set_cons_zero, List.set_cons_succ]
    refine wpAnyH_take (i := 2) (oi := { dst := some 34, op := Op.binOp BinOp.eql 56 (Operand.tmp 32) (Operand.tmp 33) 56, type := 4, pos := "law.go:39", after := #[{ on := 0, ground := Ground.data }, { on := 1, ground := Ground.data }], guard := none }) (v := ?v2_2) rfl (by kernel_rfl) (by kernel_rfl) (by kernel_rfl) (fun _ _ _ h => h) (Or.inl ⟨by rfl, ?y2_2⟩) (by assumption) ?r2_2
    case y2_2 => intro w hSw; (try dsimp only at hSw); go_simp; try with_reducible rfl
    try simp only [Act.put, List.setIfInBounds_toArray, List.set_cons_zero, List.set_cons_succ]
    refine wpAnyH_take (i := 3) (oi := { dst := some 35, op := Op.move (Operand.tmp 34), type := 4, pos := "law.go:39", after := #[{ on := 2, ground := Ground.data }], guard := none }) (v := ?v3_3) rfl (by kernel_rfl) (by kernel_rfl) (by kernel_rfl) (fun _ _ _ h => h) (Or.inl ⟨by rfl, ?y3_3⟩) (by assumption) ?r3_3
    case y3_3 => intro w hSw; (try dsimp only at hSw); go_simp; try with_reducible rfl
    try simp only [Act.put, List.setIfInBounds_toArray, List.set_cons_zero, List.set_cons_succ]
    refine wpAnyH_take (i := 4) (oi := { dst := some 36, op := Op.move (Operand.tmp 10), type := 4, pos := "law.go:39", after := #[{ on := 3, ground := Ground.guard }], guard := some (3, true) }) (v := ?v4_4) rfl (by kernel_rfl) (by kernel_rfl) (by kernel_rfl) (fun _ _ _ h => h) (Or.inl ⟨by rfl, ?y4_4⟩) (by assumption) ?r4_4
    case y4_4 => intro w hSw; (try dsimp only at hSw); go_simp; try with_reducible rfl
    try simp only [Act.put, List.setIfInBounds_toArray, List.set_cons_zero, List.set_cons_succ]
    refine wpAnyH_take (i := 5) (oi := { dst := some 37, op := Op.move (Operand.tmp 12), type := 4, pos := "law.go:39", after := #[{ on := 3, ground := Ground.guard }], guard := some (3, true) }) (v := ?v5_5) rfl (by kernel_rfl) (by kernel_rfl) (by kernel_rfl) (fun _ _ _ h => h) (Or.inl ⟨by rfl, ?y5_5⟩) (by assumption) ?r5_5
    case y5_5 => intro w hSw; (try dsimp only at hSw); go_simp; try with_reducible rfl
    try simp only [Act.put, List.setIfInBounds_toArray, List.set_cons_zero, List.set_cons_succ]
    refine wpAnyH_take (i := 6) (oi := { dst := some 38, op := Op.binOp BinOp.eql 4 (Operand.tmp 36) (Operand.tmp 37) 4, type := 4, pos := "law.go:39", after := #[{ on := 4, ground := Ground.data }, { on := 5, ground := Ground.data }, { on := 3, ground := Ground.guard }], guard := some (3, true) }) (v := ?v6_6) rfl (by kernel_rfl) (by kernel_rfl) (by kernel_rfl) (fun _ _ _ h => h) (Or.inl ⟨by rfl, ?y6_6⟩) (by assumption) ?r6_6
    case y6_6 => intro w hSw; (try dsimp only at hSw); go_simp; try with_reducible rfl
    try simp only [Act.put, List.setIfInBounds_toArray, List.set_cons_zero, List.set_cons_succ]
    refine wpAnyH_take (i := 7) (oi := { dst := some 39, op := Op.pick (Operand.tmp 35) (Operand.tmp 38) (Operand.const (Value.bool false)), type := 4, pos := "law.go:39", after := #[{ on := 3, ground := Ground.data }, { on := 6, ground := Ground.data }], guard := none }) (v := ?v7_7) rfl (by kernel_rfl) (by kernel_rfl) (by kernel_rfl) (fun _ _ _ h => h) (Or.inl ⟨by rfl, ?y7_7⟩) (by assumption) ?r7_7
    case y7_7 => intro w hSw; (try dsimp only at hSw); go_simp; try with_reducible rfl
    try simp only [Act.put, List.setIfInBounds_toArray, List.set_cons_zero, List.set_cons_succ]
    refine wpAnyH_take (i := 8) (oi := { dst := some 40, op := Op.move (Operand.tmp 39), type := 4, pos := "law.go:39", after := #[{ on := 7, ground := Ground.data }, { on := 3, ground := Ground.chain }], guard := none }) (v := ?v8_8) rfl (by kernel_rfl) (by kernel_rfl) (by kernel_rfl) (fun _ _ _ h => h) (Or.inl ⟨by rfl, ?y8_8⟩) (by assumption) ?r8_8
    case y8_8 => intro w hSw; (try dsimp only at hSw); go_simp; try with_reducible rfl
    try simp only [Act.put, List.setIfInBounds_toArray, List.set_cons_zero, List.set_cons_succ]
    refine wpAnyH_take (i := 9) (oi := { dst := some 41, op := Op.move (Operand.tmp 0), type := 28, pos := "law.go:39", after := #[{ on := 8, ground := Ground.guard }], guard := some (8, true) }) (v := ?v9_9) rfl (by kernel_rfl) (by kernel_rfl) (by kernel_rfl) (fun _ _ _ h => h) (Or.inl ⟨by rfl, ?y9_9⟩) (by assumption) ?r9_9
    case y9_9 => intro w hSw; (try dsimp only at hSw); go_simp; try with_reducible rfl
    try simp only [Act.put, List.setIfInBounds_toArray, List.set_cons_zero, List.set_cons_succ]
    refine wpAnyH_take (i := 10) (oi := { dst := some 42, op := Op.move (Operand.tmp 1), type := 29, pos := "law.go:39", after := #[{ on := 8, ground := Ground.guard }], guard := some (8, true) }) (v := ?v10_10) rfl (by kernel_rfl) (by kernel_rfl) (by kernel_rfl) (fun _ _ _ h => h) (Or.inl ⟨by rfl, ?y10_10⟩) (by assumption) ?r10_10
    case y10_10 => intro w hSw; (try dsimp only at hSw); go_simp; try with_reducible rfl
    try simp only [Act.put, List.setIfInBounds_toArray, List.set_cons_zero, List.set_cons_succ]
    refine wpAnyH_take (i := 11) (oi := { dst := some 43, op := Op.load 33 (Operand.tmp 6), type := 33, pos := "law.go:39", after := #[{ on := 8, ground := Ground.guard }], guard := some (8, true) }) (v := ?v11_11) rfl (by kernel_rfl) (by kernel_rfl) (by kernel_rfl) (fun _ _ _ h => h) (Or.inl ⟨by rfl, ?y11_11⟩) (by assumption) ?r11_11
    case y11_11 => intro w hSw; (try dsimp only at hSw); have c0 := hSw.2.1; have c1 := hSw.2.2.1; have c2 := hSw.2.2.2.1; go_simp; try with_reducible rfl
    try simp only [Act.put, List.setIfInBounds_toArray, List.set_cons_zero, List.set_cons_succ]
    refine wpAnyH_take (i := 13) (oi := { dst := some 45, op := Op.move (Operand.tmp 0), type := 28, pos := "law.go:39", after := #[{ on := 8, ground := Ground.guard }], guard := some (8, true) }) (v := ?v13_12) rfl (by kernel_rfl) (by kernel_rfl) (by kernel_rfl) (fun _ _ _ h => h) (Or.inl ⟨by rfl, ?y13_12⟩) (by assumption) ?r13_12
    case y13_12 => intro w hSw; (try dsimp only at hSw); go_simp; try with_reducible rfl
    try simp only [Act.put, List.setIfInBounds_toArray, List.set_cons_zero, List.set_cons_succ]
    refine wpAnyH_take (i := 14) (oi := { dst := some 46, op := Op.move (Operand.tmp 1), type := 29, pos := "law.go:39", after := #[{ on := 8, ground := Ground.guard }], guard := some (8, true) }) (v := ?v14_13) rfl (by kernel_rfl) (by kernel_rfl) (by kernel_rfl) (fun _ _ _ h => h) (Or.inl ⟨by rfl, ?y14_13⟩) (by assumption) ?r14_13
    case y14_13 => intro w hSw; (try dsimp only at hSw); go_simp; try with_reducible rfl
    try simp only [Act.put, List.setIfInBounds_toArray, List.set_cons_zero, List.set_cons_succ]
    refine wpAnyH_take (i := 15) (oi := { dst := some 47, op := Op.load 33 (Operand.tmp 6), type := 33, pos := "law.go:39", after := #[{ on := 8, ground := Ground.guard }], guard := some (8, true) }) (v := ?v15_14) rfl (by kernel_rfl) (by kernel_rfl) (by kernel_rfl) (fun _ _ _ h => h) (Or.inl ⟨by rfl, ?y15_14⟩) (by assumption) ?r15_14
    case y15_14 => intro w hSw; (try dsimp only at hSw); have c0 := hSw.2.1; have c1 := hSw.2.2.1; have c2 := hSw.2.2.2.1; go_simp; try with_reducible rfl
    try simp only [Act.put, List.setIfInBounds_toArray, List.set_cons_zero, List.set_cons_succ]
    refine wpAnyH_ready (rs := [12]) (by kernel_rfl) (by simp) (AllReadyH.cons (o := { dst := some 44, op := Op.call { callee := Callee.value (Operand.func 47), args := #[Operand.tmp 41, Operand.tmp 42, Operand.tmp 43], argTypes := #[28, 29, 33] }, type := 9, pos := "law.go:39", after := #[{ on := 9, ground := Ground.data }, { on := 10, ground := Ground.data }, { on := 11, ground := Ground.data }, { on := 8, ground := Ground.chain }, { on := 8, ground := Ground.guard }], guard := some (8, true) }) rfl (fun K hK => ?_) AllReadyH.nil)
    go_simp
    refine (HC1.out _ hHeld.1).mono ?_; rintro e w5 ⟨rfl, hb5⟩
    go_wp2_with fail
    refine hK.out _ _ ?_ (fun hHeld => ?_)
    · (try dsimp only); (go_split_ands; (repeat' apply And.intro) <;> first | assumption | exact Mine.call (by assumption) (by assumption) | exact Mine.alloc (by assumption) _ | exact Mine.setCells (by assumption) _ _ _ (by omega) | exact Mine.callN (by assumption) (by assumption) (by omega) | exact Row.belowN (by assumption) (by assumption) (by omega) | exact there_belowN (by assumption) (by assumption) (by omega) | exact rangeAt_below (by assumption) (by assumption) | exact World.rangeAt_alloc (by assumption) _ | exact World.rangeAt_setCells_apart (by assumption) _ _ _ (Or.inl (by omega)) | exact there_below (by assumption) (by assumption) | exact World.there_alloc (by assumption) _ | exact World.there_setCells (by assumption) _ _ _ | exact Row.belowS (by assumption) (by assumption) | exact Row.alloc (by assumption) _ | exact Row.setCells (by assumption) _ _ (by omega) | exact HS.below (by assumption) (by assumption) | exact SB.below (by assumption) (by assumption) | exact HS.alloc (by assumption) _ | exact Box.call (by assumption) (by assumption) | exact Box.alloc (by assumption) _ | exact Box.put (by assumption) _ (by assumption) | exact cell_below (by assumption) (by assumption) | exact Lib.cell?_alloc_some _ (by assumption))
    clear hK K
    try simp only [Act.put, List.setIfInBounds_toArray, List.set_cons_zero, List.set_cons_succ]
    refine wpAnyH_ready (rs := [16]) (by kernel_rfl) (by simp) (AllReadyH.cons (o := { dst := some 48, op := Op.call { callee := Callee.value (Operand.func 48), args := #[Operand.tmp 45, Operand.tmp 46, Operand.tmp 47], argTypes := #[28, 29, 33] }, type := 9, pos := "law.go:39", after := #[{ on := 13, ground := Ground.data }, { on := 14, ground := Ground.data }, { on := 15, ground := Ground.data }, { on := 12, ground := Ground.chain }, { on := 8, ground := Ground.guard }], guard := some (8, true) }) rfl (fun K hK => ?_) AllReadyH.nil)
    go_simp
    refine (HC2.out _ hHeld.1).mono ?_; rintro e w6 ⟨rfl, hb6⟩
    go_wp2_with fail
    refine hK.out _ _ ?_ (fun hHeld => ?_)
    · (try dsimp only); (go_split_ands; (repeat' apply And.intro) <;> first | assumption | exact Mine.call (by assumption) (by assumption) | exact Mine.alloc (by assumption) _ | exact Mine.setCells (by assumption) _ _ _ (by omega) | exact Mine.callN (by assumption) (by assumption) (by omega) | exact Row.belowN (by assumption) (by assumption) (by omega) | exact there_belowN (by assumption) (by assumption) (by omega) | exact rangeAt_below (by assumption) (by assumption) | exact World.rangeAt_alloc (by assumption) _ | exact World.rangeAt_setCells_apart (by assumption) _ _ _ (Or.inl (by omega)) | exact there_below (by assumption) (by assumption) | exact World.there_alloc (by assumption) _ | exact World.there_setCells (by assumption) _ _ _ | exact Row.belowS (by assumption) (by assumption) | exact Row.alloc (by assumption) _ | exact Row.setCells (by assumption) _ _ (by omega) | exact HS.below (by assumption) (by assumption) | exact SB.below (by assumption) (by assumption) | exact HS.alloc (by assumption) _ | exact Box.call (by assumption) (by assumption) | exact Box.alloc (by assumption) _ | exact Box.put (by assumption) _ (by assumption) | exact cell_below (by assumption) (by assumption) | exact Lib.cell?_alloc_some _ (by assumption))
    clear hK K
    try simp only [Act.put, List.setIfInBounds_toArray, List.set_cons_zero, List.set_cons_succ]
    refine wpAnyH_take (i := 17) (oi := { dst := some 49, op := Op.binOp BinOp.eql 9 (Operand.tmp 44) (Operand.tmp 48) 9, type := 4, pos := "law.go:39", after := #[{ on := 12, ground := Ground.data }, { on := 16, ground := Ground.data }, { on := 8, ground := Ground.guard }], guard := some (8, true) }) (v := ?v17_15) rfl (by kernel_rfl) (by kernel_rfl) (by kernel_rfl) (fun _ _ _ h => h) (Or.inl ⟨by rfl, ?y17_15⟩) (by assumption) ?r17_15
    case y17_15 => intro w hSw; (try dsimp only at hSw); go_simp; try with_reducible rfl
    try simp only [Act.put, List.setIfInBounds_toArray, List.set_cons_zero, List.set_cons_succ]
    refine wpAnyH_take (i := 18) (oi := { dst := some 50, op := Op.pick (Operand.tmp 40) (Operand.tmp 49) (Operand.const (Value.bool false)), type := 4, pos := "law.go:39", after := #[{ on := 8, ground := Ground.data }, { on := 17, ground := Ground.data }], guard := none }) (v := ?v18_16) rfl (by kernel_rfl) (by kernel_rfl) (by kernel_rfl) (fun _ _ _ h => h) (Or.inl ⟨by rfl, ?y18_16⟩) (by assumption) ?r18_16
    case y18_16 => intro w hSw; (try dsimp only at hSw); go_simp; try with_reducible rfl
    try simp only [Act.put, List.setIfInBounds_toArray, List.set_cons_zero, List.set_cons_succ]
    refine wpAnyH_take (i := 19) (oi := { dst := some 8, op := Op.assign (Operand.tmp 50), type := 4, pos := "law.go:39", after := #[{ on := 18, ground := Ground.data }, { on := 16, ground := Ground.chain }, { on := 0, ground := Ground.phase }, { on := 1, ground := Ground.phase }, { on := 2, ground := Ground.phase }, { on := 3, ground := Ground.phase }, { on := 4, ground := Ground.phase }, { on := 5, ground := Ground.phase }, { on := 6, ground := Ground.phase }, { on := 7, ground := Ground.phase }, { on := 8, ground := Ground.phase }, { on := 9, ground := Ground.phase }, { on := 10, ground := Ground.phase }, { on := 11, ground := Ground.phase }, { on := 12, ground := Ground.phase }, { on := 13, ground := Ground.phase }, { on := 14, ground := Ground.phase }, { on := 15, ground := Ground.phase }, { on := 16, ground := Ground.phase }, { on := 17, ground := Ground.phase }, { on := 18, ground := Ground.phase }], guard := none }) (v := ?v19_17) rfl (by kernel_rfl) (by kernel_rfl) (by kernel_rfl) (fun _ _ _ h => h) (Or.inl ⟨by rfl, ?y19_17⟩) (by assumption) ?r19_17
    case y19_17 => intro w hSw; (try dsimp only at hSw); go_simp; try with_reducible rfl
    try simp only [Act.put, List.setIfInBounds_toArray, List.set_cons_zero, List.set_cons_succ]
    refine wpAnyH_done (by kernel_rfl) ?_ _
    refine NoPanic.normal ?_
    have hfin := Lib.hid hHeld.1.bel
    go_wp2
    go_ret
    exact ⟨rfl, by first | exact hfin.out | (rw [hB]; exact hfin.out)⟩
end Go.Proofs.Ytofdfcngmkkfdaa

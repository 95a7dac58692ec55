/- MerkleBound. -/
import Derived.RangeFuncNested
import Derived.RangeFuncBound
import Derived.RangeFuncCalls
import Derived.RangeFuncLeaves
import Derived.Shelf.Abstract
import Derived.Shelf.RegionOpen
import Derived.WalkKit
import Derived.OwnWalkIn
import Derived.TacticsInMore
import Derived.LoopNIn
import Derived.LoopIn
import Derived.Outline
import Derived.Lib.Hide
import Derived.Lib.SliceRun
import Derived.IntWalk
import Derived.WalkLawsBesides
import Derived.WalkSpells
import Derived.Laws.BitsAllLaws
import Derived.Lib.ConvBytes
import Derived.Maps.AppendAt
import Derived.Lib.AppendStr
import Derived.Lib.SlBytesConst
import Derived.Laws.AppendOwnNone
import Derived.Laws.OwnMore
import Derived.Laws.BytesArg
import Derived.Deep.RegionHeld3
import Derived.BigQuiet
import Derived.Deep.RegionLaw
import Derived.Deep.QuietTactic
import Derived.Lib.OthersKept
import Derived.Test.YtkipnhhdlohnfaaProg
import Derived.Deep.DeepFit
import Derived.Test.YtkipnhhdlohnfaaMbB
set_option linter.unusedVariables false
set_option linter.unusedSimpArgs false
namespace Go.Proofs.Ytkipnhhdlohnfaa
open Go Go.RowKit Go.Shelf

theorem three_boxed (w : World) (a b c : List Value) : ∃ W A, ((w.alloc (.cells a.toArray 24)).alloc (.cells b.toArray 24)).alloc (.cells c.toArray 24) = W ∧ w.heap.size = A ∧ W.heap.size = A + 3 ∧ Row W A 24 a ∧ Row W (A + 1) 24 b ∧ Row W (A + 1 + 1) 24 c ∧ Mine A w W := by
  obtain ⟨W, A, hW, hA, hs, r0, r1, hm⟩ := two_boxed w a b
  rw [hW]
  have hs3 : (W.alloc (.cells c.toArray 24)).heap.size = A + 3 := by rw [alloc_size, hs]
  refine ⟨_, A, rfl, hA, hs3, r0.alloc _, r1.alloc _, ?_, hm.alloc _⟩
  have := Row.new W c.toArray 24
  rw [hs] at this
  exact this
theorem verB_true {root leaf : List UInt8} {n i : Int} {ps : List (List UInt8)} (h : verB root n i leaf ps = true) : 0 ≤ i ∧ i < n ∧ (turnsL n.toNat i.toNat).length = ps.length ∧ clb (turnsL n.toNat i.toNat).reverse ps leaf ps.length = root := by
  unfold verB at h
  split at h
  · rename_i hh
    exact ⟨hh.1, hh.2.1, hh.2.2, eq_of_beq h⟩
  · cases h
theorem range_split {w : World} {g o : Nat} {a b : List Value} (h : w.rangeAt g o (a ++ b)) (ha : a.length = 32) : w.rangeAt g o a ∧ w.rangeAt g (o + 32) b := by
  refine ⟨fun j v hj => ?_, fun j v hj => ?_⟩
  · have hlt : j < a.length := (List.getElem?_eq_some_iff.1 hj).1
    exact h j v (by rw [List.getElem?_append_left hlt]; exact hj)
  · have := h (32 + j) v (by rw [List.getElem?_append_right (by omega), ha, show 32 + j - 32 = j by omega]; exact hj)
    rwa [← Nat.add_assoc] at this
/-- the last part: the two ways beside each other -/
def Meet (xs ys : List Pr) (k : Nat) : Prop := ∃ x y, xs[k]? = some x ∧ ys[k]? = some y ∧ x ≠ y ∧ nodeL x.1 x.2 = nodeL y.1 y.2
set_option maxHeartbeats 8000000 in
set_option maxRecDepth 100000 in
theorem merkleBound_walk (n i : Int) (v : Value) (a : List UInt8) (pv : Value) (p : List (List UInt8)) (u : Value) (b : List UInt8) (qv : Value) (q : List (List UInt8)) (t : Value) (root : List UInt8) (w : World) (hn : (Lit.int .i64 n).wf = true) (hi : (Lit.int .i64 i).wf = true)
    (hv : v = .agg (enc8 a).toArray ∧ a.length = 32) (hp : HS w pv p) (hu : u = .agg (enc8 b).toArray ∧ b.length = 32) (hq : HS w qv q) (ht : t = .agg (enc8 root).toArray ∧ root.length = 32) :
    Calls Try.prog 11 #[.int .i64 n, .int .i64 i, v, pv, u, qv, t] w fun e w' => e = .returned (.bool true) ∧ Below w.heap.size w w' := by
  obtain ⟨rfl, ha⟩ := hv
  obtain ⟨rfl, hb⟩ := hu
  obtain ⟨rfl, hr⟩ := ht
  have hnb := (bounds_i64 hn).2
  obtain ⟨W, A, hW, hA, hsz, r0, r1, r2, hm⟩ := three_boxed w (enc8 a) (enc8 b) (enc8 root)
  have hf1 := fun w' hb => few_any _ p w' (hp.below (W' := w') hb)
  have hf2 := fun w' hb => few_any _ q w' (hq.below (W' := w') hb)
  have hv1 := fun w' hb => verify_any root a n i _ p w' hr ha (hp.below (W' := w') hb) (by omega)
  have hv2 := fun w' hb' => verify_any root b n i _ q w' hr hb (hq.below (W' := w') hb') (by omega)
  have heq := fun w => run_eql_sum a b ha hb w
  have i0 := info32 a ha
  have i1 := info32 b hb
  have i2 := info32 root hr
  have hgo : verB root n i a p = true → verB root n i b q = true → (a == b) = false → p.length = q.length → ∃ (N I m : Nat), n = N ∧ i = I ∧ I < N ∧ p.length = m ∧ q.length = m ∧ (turnsL N I).length = m ∧ ∃ k, k < m ∧ Meet (pairsL (turnsL N I).reverse p a m) (pairsL (turnsL N I).reverse q b m) k := by
    intro h1 h2 h3 h4
    obtain ⟨c1, c2, c3, c4⟩ := verB_true h1
    obtain ⟨-, -, -, c5⟩ := verB_true h2
    obtain ⟨k, k1, k2, k3⟩ := pairs_meet (turnsL n.toNat i.toNat).reverse p q a b p.length (by simpa using h3) (by rw [c4, h4, c5])
    exact ⟨n.toNat, i.toNat, p.length, by omega, by omega, by omega, rfl, h4.symm, c3, k, k1, _, _, pairsL_get _ _ _ _ _ k1, pairsL_get _ _ _ _ _ k1, k2, k3⟩
  have hwy : ∀ (N I m : Nat), n = N → i = I → I < N → p.length = m → q.length = m → (turnsL N I).length = m → (∀ w', Below w.heap.size w w' → Calls Try.prog 37 #[.int .i64 (N : Int), .int .i64 (I : Int), .agg (enc8 a).toArray, pv] w' fun e w'' => ∃ u, e = .returned u ∧ OHP w'' w'.heap.size u (pairsL (turnsL N I).reverse p a m) ∧ Below w'.heap.size w' w'') ∧ (∀ w', Below w.heap.size w w' → Calls Try.prog 37 #[.int .i64 (N : Int), .int .i64 (I : Int), .agg (enc8 b).toArray, qv] w' fun e w'' => ∃ u, e = .returned u ∧ OHP w'' w'.heap.size u (pairsL (turnsL N I).reverse q b m) ∧ Below w'.heap.size w' w'') := by
    intro N I m e1 e2 e3 e4 e5 e6
    refine ⟨fun w' hb' => ?_, fun w' hb' => ?_⟩
    · have := ways_any N I a pv p w' ha (hp.below hb') (by omega) e3 (by omega)
      rwa [e4] at this
    · have := ways_any N I b qv q w' hb (hq.below hb') (by omega) e3 (by omega)
      rwa [e5] at this
  obtain ⟨CP, cp, hpf, -, -⟩ := hp.form
  obtain ⟨CQ, cq, hqf, -, -⟩ := hq.form
  subst hpf hqf
  obtain ⟨P, hP⟩ : ∃ P, p.length = P := ⟨_, rfl⟩
  obtain ⟨Q, hQ⟩ : ∃ P, q.length = P := ⟨_, rfl⟩
  obtain ⟨b1, hb1⟩ : ∃ x, decide (p.length ≤ 20) = x := ⟨_, rfl⟩
  obtain ⟨b2, hb2⟩ : ∃ x, decide (q.length ≤ 20) = x := ⟨_, rfl⟩
  obtain ⟨b3, hb3⟩ : ∃ x, (a == b) = x := ⟨_, rfl⟩
  obtain ⟨b4, hb4⟩ : ∃ x, verB root n i a p = x := ⟨_, rfl⟩
  obtain ⟨b5, hb5⟩ : ∃ x, verB root n i b q = x := ⟨_, rfl⟩
  simp only [hb1] at hf1
  simp only [hb2] at hf2
  simp only [hb3] at heq
  simp only [hb4] at hv1
  simp only [hb5] at hv2
  rw [hb3, hb4, hb5] at hgo
  obtain ⟨aa, haa⟩ : ∃ x, enc8 a = x := ⟨_, rfl⟩
  obtain ⟨ab, hab⟩ : ∃ x, enc8 b = x := ⟨_, rfl⟩
  obtain ⟨ar, har⟩ : ∃ x, enc8 root = x := ⟨_, rfl⟩
  simp only [haa, hab, har] at hv1 hv2 heq hwy
  rw [haa] at hW r0 i0
  rw [hab] at hW r1 i1
  rw [har] at hW r2 i2
  rw [hP] at hf1 hv1 hwy hgo
  rw [hQ] at hf2 hv2 hwy hgo
  rw [haa, hab, har, hP, hQ]
  have HF1 := Lib.hid hf1
  have HF2 := Lib.hid hf2
  have HV1 := Lib.hid hv1
  have HV2 := Lib.hid hv2
  have HGO := Lib.hid hgo
  have HWY := Lib.hid hwy
  have HM := Lib.hid hm
  have HW := Lib.hid hW
  have R0 := Lib.hid r0
  have R1 := Lib.hid r1
  have R2 := Lib.hid r2
  clear hf1 hf2 hv1 hv2 hgo hwy hm hW r0 r1 r2 hp hq hn hi hnb ha hb hr hb1 hb2 hb3 hb4 hb5 haa hab har hP hQ hsz
  have hu := Try.underlying24
  go_enter Try.func11, Try.ntmps11
  go_wp2_with fail
  rw [HW.out]
  refine (awake05_any _).mono ?_
  rintro e w1 ⟨rfl, hb1⟩
  have HM1 := Lib.hid (HM.out.call hb1)
  have RA := Lib.hid (R0.out.belowS hb1)
  have RB := Lib.hid (R1.out.belowS hb1)
  have RR := Lib.hid (R2.out.belowS hb1)
  clear hb1 HM HW R0 R1 R2
  go_wp2_with fail
  refine (HF1.out _ (by rw [hA]; exact HM1.out.bel)).mono ?_
  rintro e w2 ⟨rfl, rfl⟩
  cases b1 with
  | false =>
    go_wp2
    go_ret
    exact ⟨rfl, by rw [hA]; exact HM1.out.bel⟩
  | true =>
  go_wp2_with fail
  refine (HF2.out _ (by rw [hA]; exact HM1.out.bel)).mono ?_
  rintro e w3 ⟨rfl, rfl⟩
  cases b2 with
  | false =>
    go_wp2
    go_ret
    exact ⟨rfl, by rw [hA]; exact HM1.out.bel⟩
  | true =>
  cases b3 with
  | true =>
    go_wp2_with (first
      | (refine RA.out.loadg rfl 24 (.tmp 9) rfl rfl _ _ Try.underlying24 i0 ?_)
      | (refine RB.out.loadg rfl 24 (.tmp 11) rfl rfl _ _ Try.underlying24 i1 ?_))
    go_ret
    exact ⟨rfl, by rw [hA]; exact HM1.out.bel⟩
  | false =>
  go_wp2_with (first
    | (refine RA.out.loadg rfl 24 (.tmp 9) rfl rfl _ _ Try.underlying24 i0 ?_)
    | (refine RB.out.loadg rfl 24 (.tmp 11) rfl rfl _ _ Try.underlying24 i1 ?_)
    | (refine RR.out.loadg rfl 24 (.tmp 13) rfl rfl _ _ Try.underlying24 i2 ?_))
  refine (HV1.out _ (by rw [hA]; exact HM1.out.bel)).mono ?_
  rintro e w4 ⟨rfl, hb4⟩
  have HM4 := Lib.hid (HM1.out.call hb4)
  have RA4 := Lib.hid (RA.out.belowS hb4)
  have RB4 := Lib.hid (RB.out.belowS hb4)
  have RR4 := Lib.hid (RR.out.belowS hb4)
  clear hb4 HM1 RA RB RR
  cases b4 with
  | false =>
    go_wp2
    go_ret
    exact ⟨rfl, by rw [hA]; exact HM4.out.bel⟩
  | true =>
  go_wp2_with (first
    | (refine RB4.out.loadg rfl 24 (.tmp 11) rfl rfl _ _ Try.underlying24 i1 ?_)
    | (refine RR4.out.loadg rfl 24 (.tmp 13) rfl rfl _ _ Try.underlying24 i2 ?_))
  refine (HV2.out _ (by rw [hA]; exact HM4.out.bel)).mono ?_
  rintro e w5 ⟨rfl, hb5⟩
  have HM5 := Lib.hid (HM4.out.call hb5)
  have RA5 := Lib.hid (RA4.out.belowS hb5)
  have RB5 := Lib.hid (RB4.out.belowS hb5)
  clear hb5 HM4 RA4 RB4 RR4
  cases b5 with
  | false =>
    go_wp2
    go_ret
    exact ⟨rfl, by rw [hA]; exact HM5.out.bel⟩
  | true =>
  by_cases hpq : P = Q
  · subst hpq
    obtain ⟨N, I, m, rfl, rfl, hIN, hPm, -, hts, k0, hk0, hmeet⟩ := HGO.out (by first | rfl | trivial) (by first | rfl | trivial) (by first | rfl | trivial) rfl
    obtain ⟨ws1, ws2⟩ := HWY.out N I m rfl rfl hIN hPm hPm hts
    subst hPm
    have lx := pairsL_len (turnsL N I).reverse p a P
    have ly := pairsL_len (turnsL N I).reverse q b P
    obtain ⟨xs, hxs⟩ : ∃ x, pairsL (turnsL N I).reverse p a P = x := ⟨_, rfl⟩
    obtain ⟨ys, hys⟩ : ∃ x, pairsL (turnsL N I).reverse q b P = x := ⟨_, rfl⟩
    simp only [hxs] at ws1 lx hmeet
    simp only [hys] at ws2 ly hmeet
    have WS1 := Lib.hid ws1
    have WS2 := Lib.hid ws2
    have LX := Lib.hid lx
    have LY := Lib.hid ly
    have HMT := Lib.hid hmeet
    have q1 : ((P : Int) != (P : Int)) = false := by simp
    clear ws1 ws2 lx ly hmeet hxs hys HGO HWY hts
    go_wp2_with fail
    refine wp_region_noPanic ?_
    refine wp_region_held_drew (S := (fun w' => Mine A w w' ∧ w'.rangeAt A 0 aa ∧ w'.rangeAt (A + 1) 0 ab)) (by kernel_rfl) ?_ (fun hHeld => ?_)
    · exact ⟨⟨HM5.out.le, HM5.out.bel.drew⟩, (World.rangeAt_drew _ _ _ _).2 RA5.out.range, (World.rangeAt_drew _ _ _ _).2 RB5.out.range⟩
    refine wpAnyH_take (i := 0) (oi := { dst := some 58, op := Op.move (Operand.tmp 0), type := 3, pos := "law.go:120", after := #[], guard := none }) (v := ?v0_0) rfl (by kernel_rfl) (by kernel_rfl) (by kernel_rfl) (fun _ _ _ h => h) (Or.inl ⟨by rfl, ?y0_0⟩) (by assumption) ?r0_0
    case y0_0 => intro w hSw; (try dsimp only at hSw); go_simp; try with_reducible rfl
    try simp only [Act.put, List.setIfInBounds_toArray, List.set_cons_zero, List.set_cons_succ]
    refine wpAnyH_take (i := 1) (oi := { dst := some 59, op := Op.move (Operand.tmp 1), type := 3, pos := "law.go:120", after := #[], guard := none }) (v := ?v1_1) rfl (by kernel_rfl) (by kernel_rfl) (by kernel_rfl) (fun _ _ _ h => h) (Or.inl ⟨by rfl, ?y1_1⟩) (by assumption) ?r1_1
    case y1_1 => intro w hSw; (try dsimp only at hSw); go_simp; try with_reducible rfl
    try simp only [Act.put, List.setIfInBounds_toArray, List.set_cons_zero, List.set_cons_succ]
    refine wpAnyH_take (i := 2) (oi := { dst := some 60, op := Op.load 24 (Operand.tmp 9), type := 24, pos := "law.go:120", after := #[], guard := none }) (v := _) rfl (by kernel_rfl) (by kernel_rfl) (by kernel_rfl) (fun _ _ _ h => h) (yieldsIf_load_mid (by rfl) _ _ rfl _ _ rfl _ _ (by intro w hSw; (try dsimp only at hSw); go_split_ands; assumption) (by assumption) rfl (by first | assumption | (simp only [*]; done))) (by assumption) ?_
    try simp only [Act.put, List.setIfInBounds_toArray, List.set_cons_zero, List.set_cons_succ]
    refine wpAnyH_take (i := 3) (oi := { dst := some 61, op := Op.move (Operand.tmp 3), type := 29, pos := "law.go:120", after := #[], guard := none }) (v := ?v3_2) rfl (by kernel_rfl) (by kernel_rfl) (by kernel_rfl) (fun _ _ _ h => h) (Or.inl ⟨by rfl, ?y3_2⟩) (by assumption) ?r3_2
    case y3_2 => intro w hSw; (try dsimp only at hSw); go_simp; try with_reducible rfl
    try simp only [Act.put, List.setIfInBounds_toArray, List.set_cons_zero, List.set_cons_succ]
    refine wpAnyH_take (i := 5) (oi := { dst := some 63, op := Op.move (Operand.tmp 0), type := 3, pos := "law.go:120", after := #[], guard := none }) (v := ?v5_3) rfl (by kernel_rfl) (by kernel_rfl) (by kernel_rfl) (fun _ _ _ h => h) (Or.inl ⟨by rfl, ?y5_3⟩) (by assumption) ?r5_3
    case y5_3 => intro w hSw; (try dsimp only at hSw); go_simp; try with_reducible rfl
    try simp only [Act.put, List.setIfInBounds_toArray, List.set_cons_zero, List.set_cons_succ]
    refine wpAnyH_take (i := 6) (oi := { dst := some 64, op := Op.move (Operand.tmp 1), type := 3, pos := "law.go:120", after := #[], guard := none }) (v := ?v6_4) rfl (by kernel_rfl) (by kernel_rfl) (by kernel_rfl) (fun _ _ _ h => h) (Or.inl ⟨by rfl, ?y6_4⟩) (by assumption) ?r6_4
    case y6_4 => intro w hSw; (try dsimp only at hSw); go_simp; try with_reducible rfl
    try simp only [Act.put, List.setIfInBounds_toArray, List.set_cons_zero, List.set_cons_succ]
    refine wpAnyH_take (i := 7) (oi := { dst := some 65, op := Op.load 24 (Operand.tmp 11), type := 24, pos := "law.go:120", after := #[], guard := none }) (v := _) rfl (by kernel_rfl) (by kernel_rfl) (by kernel_rfl) (fun _ _ _ h => h) (yieldsIf_load_mid (by rfl) _ _ rfl _ _ rfl _ _ (by intro w hSw; (try dsimp only at hSw); go_split_ands; assumption) (by assumption) rfl (by first | assumption | (simp only [*]; done))) (by assumption) ?_
    try simp only [Act.put, List.setIfInBounds_toArray, List.set_cons_zero, List.set_cons_succ]
    refine wpAnyH_take (i := 8) (oi := { dst := some 66, op := Op.move (Operand.tmp 5), type := 29, pos := "law.go:120", after := #[], guard := none }) (v := ?v8_5) rfl (by kernel_rfl) (by kernel_rfl) (by kernel_rfl) (fun _ _ _ h => h) (Or.inl ⟨by rfl, ?y8_5⟩) (by assumption) ?r8_5
    case y8_5 => intro w hSw; (try dsimp only at hSw); go_simp; try with_reducible rfl
    try simp only [Act.put, List.setIfInBounds_toArray, List.set_cons_zero, List.set_cons_succ]
    refine wpAnyH_ready (rs := [4]) (by kernel_rfl) (by simp) (AllReadyH.cons (o := { dst := some 62, op := Op.call { callee := Callee.value (Operand.func 37), args := #[Operand.tmp 58, Operand.tmp 59, Operand.tmp 60, Operand.tmp 61], argTypes := #[3, 3, 24, 29] }, type := 47, pos := "law.go:120", after := #[{ on := 0, ground := Ground.data }, { on := 1, ground := Ground.data }, { on := 2, ground := Ground.data }, { on := 3, ground := Ground.data }], guard := none }) rfl (fun K hK => ?_) AllReadyH.nil)
    go_simp
    refine (WS1.out _ (by rw [hA]; exact hHeld.1.bel)).mono ?_; rintro e w6 ⟨u1, rfl, ho1, hb6⟩
    go_wp2_with fail
    refine hK.out _ _ ?_ (fun hHeld => ?_)
    · (try dsimp only); (go_split_ands; (repeat' apply And.intro) <;> first | assumption | exact Mine.call (by assumption) (by assumption) | exact Mine.alloc (by assumption) _ | exact Mine.setCells (by assumption) _ _ _ (by omega) | exact Mine.callN (by assumption) (by assumption) (by omega) | exact Row.belowN (by assumption) (by assumption) (by omega) | exact there_belowN (by assumption) (by assumption) (by omega) | exact rangeAt_below (by assumption) (by assumption) | exact World.rangeAt_alloc (by assumption) _ | exact World.rangeAt_setCells_apart (by assumption) _ _ _ (Or.inl (by omega)) | exact there_below (by assumption) (by assumption) | exact World.there_alloc (by assumption) _ | exact World.there_setCells (by assumption) _ _ _ | exact Row.belowS (by assumption) (by assumption) | exact Row.alloc (by assumption) _ | exact Row.setCells (by assumption) _ _ (by omega) | exact HS.below (by assumption) (by assumption) | exact SB.below (by assumption) (by assumption) | exact HS.alloc (by assumption) _ | exact Box.call (by assumption) (by assumption) | exact Box.alloc (by assumption) _ | exact Box.put (by assumption) _ (by assumption) | exact OHP.alloc (by assumption) _ | exact OHP.below (by assumption) (by assumption) | exact OHP.put (by assumption) _ _ (by omega) | exact Kept.call (by assumption) (by assumption) | exact Kept.alloc (by assumption) _ | exact Kept.setCells (by assumption) _ _ _ (by omega) | exact World.rangeAt_drew _ _ _ _ | exact cell_below (by assumption) (by assumption) | exact Lib.cell?_alloc_some _ (by assumption))
    clear hK K
    try simp only [Act.put, List.setIfInBounds_toArray, List.set_cons_zero, List.set_cons_succ]
    refine wpAnyH_ready (rs := [9]) (by kernel_rfl) (by simp) (AllReadyH.cons (o := { dst := some 67, op := Op.call { callee := Callee.value (Operand.func 37), args := #[Operand.tmp 63, Operand.tmp 64, Operand.tmp 65, Operand.tmp 66], argTypes := #[3, 3, 24, 29] }, type := 47, pos := "law.go:120", after := #[{ on := 5, ground := Ground.data }, { on := 6, ground := Ground.data }, { on := 7, ground := Ground.data }, { on := 8, ground := Ground.data }, { on := 4, ground := Ground.chain }], guard := none }) rfl (fun K hK => ?_) AllReadyH.nil)
    go_simp
    refine (WS2.out _ (by rw [hA]; exact hHeld.1.bel)).mono ?_; rintro e w7 ⟨u2, rfl, ho2, hb7⟩; have ho17 := ho1.below hb7
    go_wp2_with fail
    refine hK.out _ _ ?_ (fun hHeld => ?_)
    · (try dsimp only); (go_split_ands; (repeat' apply And.intro) <;> first | assumption | exact Mine.call (by assumption) (by assumption) | exact Mine.alloc (by assumption) _ | exact Mine.setCells (by assumption) _ _ _ (by omega) | exact Mine.callN (by assumption) (by assumption) (by omega) | exact Row.belowN (by assumption) (by assumption) (by omega) | exact there_belowN (by assumption) (by assumption) (by omega) | exact rangeAt_below (by assumption) (by assumption) | exact World.rangeAt_alloc (by assumption) _ | exact World.rangeAt_setCells_apart (by assumption) _ _ _ (Or.inl (by omega)) | exact there_below (by assumption) (by assumption) | exact World.there_alloc (by assumption) _ | exact World.there_setCells (by assumption) _ _ _ | exact Row.belowS (by assumption) (by assumption) | exact Row.alloc (by assumption) _ | exact Row.setCells (by assumption) _ _ (by omega) | exact HS.below (by assumption) (by assumption) | exact SB.below (by assumption) (by assumption) | exact HS.alloc (by assumption) _ | exact Box.call (by assumption) (by assumption) | exact Box.alloc (by assumption) _ | exact Box.put (by assumption) _ (by assumption) | exact OHP.alloc (by assumption) _ | exact OHP.below (by assumption) (by assumption) | exact OHP.put (by assumption) _ _ (by omega) | exact Kept.call (by assumption) (by assumption) | exact Kept.alloc (by assumption) _ | exact Kept.setCells (by assumption) _ _ _ (by omega) | exact World.rangeAt_drew _ _ _ _ | exact cell_below (by assumption) (by assumption) | exact Lib.cell?_alloc_some _ (by assumption))
    clear hK K
    try simp only [Act.put, List.setIfInBounds_toArray, List.set_cons_zero, List.set_cons_succ]
    refine wpAnyH_take (i := 10) (oi := { dst := some 15, op := Op.assign (Operand.tmp 62), type := 47, pos := "law.go:120", after := #[{ on := 4, ground := Ground.data }, { on := 9, ground := Ground.chain }, { on := 0, ground := Ground.phase }, { on := 1, ground := Ground.phase }, { on := 2, ground := Ground.phase }, { on := 3, ground := Ground.phase }, { on := 4, ground := Ground.phase }, { on := 5, ground := Ground.textOnly Departure.lateStores }, { on := 6, ground := Ground.textOnly Departure.lateStores }, { on := 7, ground := Ground.textOnly Departure.lateStores }, { on := 8, ground := Ground.textOnly Departure.lateStores }, { on := 9, ground := Ground.textOnly Departure.lateStoresUnsure }], guard := none }) (v := ?v10_6) rfl (by kernel_rfl) (by kernel_rfl) (by kernel_rfl) (fun _ _ _ h => h) (Or.inl ⟨by rfl, ?y10_6⟩) (by assumption) ?r10_6
    case y10_6 => intro w hSw; (try dsimp only at hSw); go_simp; try with_reducible rfl
    try simp only [Act.put, List.setIfInBounds_toArray, List.set_cons_zero, List.set_cons_succ]
    refine wpAnyH_take (i := 11) (oi := { dst := some 16, op := Op.assign (Operand.tmp 67), type := 47, pos := "law.go:120", after := #[{ on := 9, ground := Ground.data }, { on := 10, ground := Ground.chain }, { on := 0, ground := Ground.phase }, { on := 1, ground := Ground.phase }, { on := 2, ground := Ground.phase }, { on := 3, ground := Ground.phase }, { on := 4, ground := Ground.phase }, { on := 5, ground := Ground.phase }, { on := 6, ground := Ground.phase }, { on := 7, ground := Ground.phase }, { on := 8, ground := Ground.phase }, { on := 9, ground := Ground.phase }, { on := 10, ground := Ground.phase }], guard := none }) (v := ?v11_7) rfl (by kernel_rfl) (by kernel_rfl) (by kernel_rfl) (fun _ _ _ h => h) (Or.inl ⟨by rfl, ?y11_7⟩) (by assumption) ?r11_7
    case y11_7 => intro w hSw; (try dsimp only at hSw); go_simp; try with_reducible rfl
    try simp only [Act.put, List.setIfInBounds_toArray, List.set_cons_zero, List.set_cons_succ]
    refine wpAnyH_done (by kernel_rfl) ?_ _
    refine NoPanic.normal ?_
    have HM7 := Lib.hid hHeld.1
    clear hHeld HM5 RA5 RB5 ho1
    obtain ⟨A1, c1, rfl, hc1, hc1m, hx⟩ := ho17.form
    obtain ⟨A2, c2, rfl, hc2, -, hy⟩ := ho2.form
    have hk1 : ∀ x ∈ xs, ok2 x := ho17.1
    have hk2 : ∀ x ∈ ys, ok2 x := ho2.1
    rw [LX.out] at hc1 ⊢
    rw [LY.out] at hc2 ⊢
    have HX := Lib.hid hx
    have HY := Lib.hid hy
    have K1 := Lib.hid hk1
    have K2 := Lib.hid hk2
    obtain ⟨BW, hBW⟩ : ∃ BW, w7.heap.size = BW := ⟨_, rfl⟩
    have HBW := Lib.hid hBW
    clear ho17 ho2 hx hy hk1 hk2 hBW
    go_wp2
    go_loopw [70] (fun x wr => ∃ k : Nat, (x = .int .i64 (k : Int) ∧ k ≤ P) ∧ Hid (∀ j, j < k → ¬ Meet xs ys j) ∧ Hid (Mine BW w7 wr)) (fun x _ => P - (intOf x).toNat)
    case atStart => exact ⟨0, ⟨rfl, by omega⟩, fun j h => by omega, ⟨Nat.le_of_eq HBW.out.symm, Below.refl _ _⟩⟩
    case round =>
      obtain ⟨k, ⟨rfl, hkP⟩, hno, hmi⟩ := hrel
      by_cases hkl : k < P
      · obtain ⟨x, hx⟩ : ∃ x, xs[k]? = some x := ⟨_, List.getElem?_eq_getElem (by rw [LX.out]; exact hkl)⟩
        obtain ⟨y, hy⟩ : ∃ x, ys[k]? = some x := ⟨_, List.getElem?_eq_getElem (by rw [LY.out]; exact hkl)⟩
        have ox := K1.out x (List.mem_of_getElem? hx)
        have oy := K2.out y (List.mem_of_getElem? hy)
        obtain ⟨g1, rfl, -, rx0⟩ := HX.out k x hx
        obtain ⟨g2, rfl, -, ry0⟩ := HY.out k y hy
        have rx := rangeAt_below rx0 (by rw [HBW.out]; exact hmi.out.bel)
        have ry := rangeAt_below ry0 (by rw [HBW.out]; exact hmi.out.bel)
        obtain ⟨x1, x2⟩ := x
        obtain ⟨y1, y2⟩ := y
        have hneq := fun w => run_neq_pair x1 x2 y1 y2 ox.1 ox.2 oy.1 oy.2 w
        have hn1 := fun w' => qnode_any x1 x2 ox.1 ox.2 w'
        have hn2 := fun w' => qnode_any y1 y2 oy.1 oy.2 w'
        have heq := fun w => run_eql_sum (nodeL x1 x2) (nodeL y1 y2) (nodeL_length _ _) (nodeL_length _ _) w
        have hmk : (x1 == y1 && x2 == y2) = false → (nodeL x1 x2 == nodeL y1 y2) = true → Meet xs ys k := fun h1 h2 => ⟨_, _, hx, hy, fun e => by cases e; simp at h1, eq_of_beq h2⟩
        have hmn : ((x1 == y1 && x2 == y2) = true ∨ (nodeL x1 x2 == nodeL y1 y2) = false) → ¬ Meet xs ys k := by
          rintro h ⟨x', y', h1, h2, h3, h4⟩
          rw [hx] at h1
          rw [hy] at h2
          cases h1
          cases h2
          rcases h with h | h
          · simp at h
            exact h3 (by rw [h.1, h.2])
          · simp only [beq_eq_false_iff_ne] at h
            exact h h4
        obtain ⟨d, hd⟩ : ∃ d, (x1 == y1 && x2 == y2) = d := ⟨_, rfl⟩
        obtain ⟨e, he⟩ : ∃ d, (nodeL x1 x2 == nodeL y1 y2) = d := ⟨_, rfl⟩
        simp only [hd] at hneq hmk hmn
        simp only [he] at heq hmk hmn
        have ln1 := nodeL_length x1 x2
        have ln2 := nodeL_length y1 y2
        unfold enc2 at rx ry
        have hhx := range_split rx (by rw [enc8_len, ox.1])
        have hhy := range_split ry (by rw [enc8_len, oy.1])
        have lp1 : (enc8 x1 ++ enc8 x2).length = 64 := by rw [List.length_append, enc8_len, enc8_len, ox.1, ox.2]
        have lp2 : (enc8 y1 ++ enc8 y2).length = 64 := by rw [List.length_append, enc8_len, enc8_len, oy.1, oy.2]
        have j1 := info64 _ lp1
        have j2 := info64 _ lp2
        have j3 := info32 x1 ox.1
        have j4 := info32 x2 ox.2
        have j5 := info32 y1 oy.1
        have j6 := info32 y2 oy.2
        obtain ⟨n1, hn1e⟩ : ∃ d, enc8 (nodeL x1 x2) = d := ⟨_, rfl⟩
        obtain ⟨n2, hn2e⟩ : ∃ d, enc8 (nodeL y1 y2) = d := ⟨_, rfl⟩
        obtain ⟨a1, ha1⟩ : ∃ d, enc8 x1 = d := ⟨_, rfl⟩
        obtain ⟨a2, ha2⟩ : ∃ d, enc8 x2 = d := ⟨_, rfl⟩
        obtain ⟨b1, hb1⟩ : ∃ d, enc8 y1 = d := ⟨_, rfl⟩
        obtain ⟨b2, hb2⟩ : ∃ d, enc8 y2 = d := ⟨_, rfl⟩
        simp only [hn1e, hn2e] at heq
        simp only [hn1e, ha1, ha2] at hn1
        simp only [hn2e, hb1, hb2] at hn2
        simp only [ha1, ha2, hb1, hb2] at hneq
        rw [ha1, ha2] at rx hhx j1
        rw [hb1, hb2] at ry hhy j2
        rw [ha1] at j3
        rw [ha2] at j4
        rw [hb1] at j5
        rw [hb2] at j6
        obtain ⟨pa, hpa⟩ : ∃ d, a1 ++ a2 = d := ⟨_, rfl⟩
        obtain ⟨pb, hpb⟩ : ∃ d, b1 ++ b2 = d := ⟨_, rfl⟩
        rw [hpa] at rx j1
        rw [hpb] at ry j2
        simp only [hpa, hpb] at hneq
        have N1 := Lib.hid hn1
        have N2 := Lib.hid hn2
        have MK := Lib.hid hmk
        have MN := Lib.hid hmn
        have hu2 := Try.underlying49
        have k1 : (k : Int) < (P : Int) := by omega
        have k2 : IntKind.i64.wrap ((k : Int) + 1) = ((k + 1 : Nat) : Int) := by rw [IntWalk.i64_in _ (by omega)]; omega
        clear hn1 hn2 hmk hmn ox oy hx hy rx0 ry0 hd he ln1 ln2 lp1 lp2 hn1e hn2e ha1 ha2 hb1 hb2 hpa hpb
        have hmi2 := hmi.out
        cases d with
        | true =>
          go_wp2_with fail
          refine wp_region_noPanic ?_
          refine wp_region_held_drew (S := (fun w' => Mine BW w7 w' ∧ w'.rangeAt g1 (k * 64) pa ∧ w'.rangeAt g2 (k * 64) pb)) (by kernel_rfl) ?_ (fun hHeld => ?_)
          · exact ⟨⟨hmi2.le, hmi2.bel.drew⟩, (World.rangeAt_drew _ _ _ _).2 rx, (World.rangeAt_drew _ _ _ _).2 ry⟩
          refine wpAnyH_take (i := 0) (oi := { dst := some 73, op := Op.move (Operand.tmp 15), type := 47, pos := "law.go:122", after := #[], guard := none }) (v := ?v0_8) rfl (by kernel_rfl) (by kernel_rfl) (by kernel_rfl) (fun _ _ _ h => h) (Or.inl ⟨by rfl, ?y0_8⟩) (by assumption) ?r0_8
          case y0_8 => intro w hSw; (try dsimp only at hSw); go_simp; try with_reducible rfl
          try simp only [Act.put, List.setIfInBounds_toArray, List.set_cons_zero, List.set_cons_succ]
          refine wpAnyH_take (i := 1) (oi := { dst := some 74, op := Op.move (Operand.tmp 17), type := 3, pos := "law.go:122", after := #[], guard := none }) (v := ?v1_9) rfl (by kernel_rfl) (by kernel_rfl) (by kernel_rfl) (fun _ _ _ h => h) (Or.inl ⟨by rfl, ?y1_9⟩) (by assumption) ?r1_9
          case y1_9 => intro w hSw; (try dsimp only at hSw); go_simp; try with_reducible rfl
          try simp only [Act.put, List.setIfInBounds_toArray, List.set_cons_zero, List.set_cons_succ]
          refine wpAnyH_take (i := 2) (oi := { dst := some 75, op := Op.indexAddr 47 (Operand.tmp 73) (Operand.tmp 74), type := 0, pos := "law.go:122", after := #[{ on := 0, ground := Ground.data }, { on := 1, ground := Ground.data }], guard := none }) (v := ?v2_10) rfl (by kernel_rfl) (by kernel_rfl) (by kernel_rfl) (fun _ _ _ h => h) (Or.inl ⟨by rfl, ?y2_10⟩) (by assumption) ?r2_10
          case y2_10 => intro w hSw; (try dsimp only at hSw); go_simp; try with_reducible rfl
          try simp only [Act.put, List.setIfInBounds_toArray, List.set_cons_zero, List.set_cons_succ]
          refine wpAnyH_take (i := 3) (oi := { dst := some 76, op := Op.load 49 (Operand.tmp 75), type := 49, pos := "law.go:122", after := #[{ on := 2, ground := Ground.data }], guard := none }) (v := _) rfl (by kernel_rfl) (by kernel_rfl) (by kernel_rfl) (fun _ _ _ h => h) (yieldsIf_load_mid (by rfl) _ _ rfl _ _ rfl _ _ (by intro w hSw; (try dsimp only at hSw); go_split_ands; assumption) (by assumption) rfl (by first | assumption | (simp only [*]; done))) (by assumption) ?_
          try simp only [Act.put, List.setIfInBounds_toArray, List.set_cons_zero, List.set_cons_succ]
          refine wpAnyH_take (i := 4) (oi := { dst := some 77, op := Op.move (Operand.tmp 16), type := 47, pos := "law.go:122", after := #[], guard := none }) (v := ?v4_11) rfl (by kernel_rfl) (by kernel_rfl) (by kernel_rfl) (fun _ _ _ h => h) (Or.inl ⟨by rfl, ?y4_11⟩) (by assumption) ?r4_11
          case y4_11 => intro w hSw; (try dsimp only at hSw); go_simp; try with_reducible rfl
          try simp only [Act.put, List.setIfInBounds_toArray, List.set_cons_zero, List.set_cons_succ]
          refine wpAnyH_take (i := 5) (oi := { dst := some 78, op := Op.move (Operand.tmp 17), type := 3, pos := "law.go:122", after := #[], guard := none }) (v := ?v5_12) rfl (by kernel_rfl) (by kernel_rfl) (by kernel_rfl) (fun _ _ _ h => h) (Or.inl ⟨by rfl, ?y5_12⟩) (by assumption) ?r5_12
          case y5_12 => intro w hSw; (try dsimp only at hSw); go_simp; try with_reducible rfl
          try simp only [Act.put, List.setIfInBounds_toArray, List.set_cons_zero, List.set_cons_succ]
          refine wpAnyH_take (i := 6) (oi := { dst := some 79, op := Op.indexAddr 47 (Operand.tmp 77) (Operand.tmp 78), type := 0, pos := "law.go:122", after := #[{ on := 4, ground := Ground.data }, { on := 5, ground := Ground.data }], guard := none }) (v := ?v6_13) rfl (by kernel_rfl) (by kernel_rfl) (by kernel_rfl) (fun _ _ _ h => h) (Or.inl ⟨by rfl, ?y6_13⟩) (by assumption) ?r6_13
          case y6_13 => intro w hSw; (try dsimp only at hSw); go_simp; try with_reducible rfl
          try simp only [Act.put, List.setIfInBounds_toArray, List.set_cons_zero, List.set_cons_succ]
          refine wpAnyH_take (i := 7) (oi := { dst := some 80, op := Op.load 49 (Operand.tmp 79), type := 49, pos := "law.go:122", after := #[{ on := 6, ground := Ground.data }], guard := none }) (v := _) rfl (by kernel_rfl) (by kernel_rfl) (by kernel_rfl) (fun _ _ _ h => h) (yieldsIf_load_mid (by rfl) _ _ rfl _ _ rfl _ _ (by intro w hSw; (try dsimp only at hSw); go_split_ands; assumption) (by assumption) rfl (by first | assumption | (simp only [*]; done))) (by assumption) ?_
          try simp only [Act.put, List.setIfInBounds_toArray, List.set_cons_zero, List.set_cons_succ]
          refine wpAnyH_take (i := 8) (oi := { dst := some 81, op := Op.binOp BinOp.neq 49 (Operand.tmp 76) (Operand.tmp 80) 49, type := 4, pos := "law.go:122", after := #[{ on := 3, ground := Ground.data }, { on := 7, ground := Ground.data }], guard := none }) (v := ?v8_14) rfl (by kernel_rfl) (by kernel_rfl) (by kernel_rfl) (fun _ _ _ h => h) (Or.inl ⟨by rfl, ?y8_14⟩) (by assumption) ?r8_14
          case y8_14 => intro w hSw; (try dsimp only at hSw); go_simp; try with_reducible rfl
          try simp only [Act.put, List.setIfInBounds_toArray, List.set_cons_zero, List.set_cons_succ]
          refine wpAnyH_take (i := 9) (oi := { dst := some 82, op := Op.move (Operand.tmp 81), type := 4, pos := "law.go:122", after := #[{ on := 8, ground := Ground.data }], guard := none }) (v := ?v9_15) rfl (by kernel_rfl) (by kernel_rfl) (by kernel_rfl) (fun _ _ _ h => h) (Or.inl ⟨by rfl, ?y9_15⟩) (by assumption) ?r9_15
          case y9_15 => intro w hSw; (try dsimp only at hSw); go_simp; try with_reducible rfl
          try simp only [Act.put, List.setIfInBounds_toArray, List.set_cons_zero, List.set_cons_succ]
          refine wpAnyH_take (i := 10) (oi := { dst := some 83, op := Op.move (Operand.tmp 15), type := 47, pos := "law.go:122", after := #[{ on := 9, ground := Ground.guard }], guard := some (9, true) }) (v := undef) rfl (by kernel_rfl) (by kernel_rfl) (by kernel_rfl) (fun _ _ _ h => h) (Or.inr ⟨by rfl, rfl⟩) (by assumption) ?_
          try simp only [Act.put, List.setIfInBounds_toArray, List.set_cons_zero, List.set_cons_succ]
          refine wpAnyH_take (i := 11) (oi := { dst := some 84, op := Op.move (Operand.tmp 17), type := 3, pos := "law.go:122", after := #[{ on := 9, ground := Ground.guard }], guard := some (9, true) }) (v := undef) rfl (by kernel_rfl) (by kernel_rfl) (by kernel_rfl) (fun _ _ _ h => h) (Or.inr ⟨by rfl, rfl⟩) (by assumption) ?_
          try simp only [Act.put, List.setIfInBounds_toArray, List.set_cons_zero, List.set_cons_succ]
          refine wpAnyH_take (i := 12) (oi := { dst := some 85, op := Op.indexAddr 47 (Operand.tmp 83) (Operand.tmp 84), type := 0, pos := "law.go:122", after := #[{ on := 10, ground := Ground.data }, { on := 11, ground := Ground.data }, { on := 9, ground := Ground.guard }], guard := some (9, true) }) (v := undef) rfl (by kernel_rfl) (by kernel_rfl) (by kernel_rfl) (fun _ _ _ h => h) (Or.inr ⟨by rfl, rfl⟩) (by assumption) ?_
          try simp only [Act.put, List.setIfInBounds_toArray, List.set_cons_zero, List.set_cons_succ]
          refine wpAnyH_take (i := 13) (oi := { dst := some 86, op := Op.indexAddr 49 (Operand.tmp 85) (Operand.const (Value.int IntKind.i64 0)), type := 0, pos := "law.go:122", after := #[{ on := 12, ground := Ground.data }, { on := 9, ground := Ground.guard }], guard := some (9, true) }) (v := undef) rfl (by kernel_rfl) (by kernel_rfl) (by kernel_rfl) (fun _ _ _ h => h) (Or.inr ⟨by rfl, rfl⟩) (by assumption) ?_
          try simp only [Act.put, List.setIfInBounds_toArray, List.set_cons_zero, List.set_cons_succ]
          refine wpAnyH_take (i := 14) (oi := { dst := some 87, op := Op.load 24 (Operand.tmp 86), type := 24, pos := "law.go:122", after := #[{ on := 13, ground := Ground.data }, { on := 9, ground := Ground.guard }], guard := some (9, true) }) (v := undef) rfl (by kernel_rfl) (by kernel_rfl) (by kernel_rfl) (fun _ _ _ h => h) (Or.inr ⟨by rfl, rfl⟩) (by assumption) ?_
          try simp only [Act.put, List.setIfInBounds_toArray, List.set_cons_zero, List.set_cons_succ]
          refine wpAnyH_take (i := 15) (oi := { dst := some 88, op := Op.move (Operand.tmp 15), type := 47, pos := "law.go:122", after := #[{ on := 9, ground := Ground.guard }], guard := some (9, true) }) (v := undef) rfl (by kernel_rfl) (by kernel_rfl) (by kernel_rfl) (fun _ _ _ h => h) (Or.inr ⟨by rfl, rfl⟩) (by assumption) ?_
          try simp only [Act.put, List.setIfInBounds_toArray, List.set_cons_zero, List.set_cons_succ]
          refine wpAnyH_take (i := 16) (oi := { dst := some 89, op := Op.move (Operand.tmp 17), type := 3, pos := "law.go:122", after := #[{ on := 9, ground := Ground.guard }], guard := some (9, true) }) (v := undef) rfl (by kernel_rfl) (by kernel_rfl) (by kernel_rfl) (fun _ _ _ h => h) (Or.inr ⟨by rfl, rfl⟩) (by assumption) ?_
          try simp only [Act.put, List.setIfInBounds_toArray, List.set_cons_zero, List.set_cons_succ]
          refine wpAnyH_take (i := 17) (oi := { dst := some 90, op := Op.indexAddr 47 (Operand.tmp 88) (Operand.tmp 89), type := 0, pos := "law.go:122", after := #[{ on := 15, ground := Ground.data }, { on := 16, ground := Ground.data }, { on := 9, ground := Ground.guard }], guard := some (9, true) }) (v := undef) rfl (by kernel_rfl) (by kernel_rfl) (by kernel_rfl) (fun _ _ _ h => h) (Or.inr ⟨by rfl, rfl⟩) (by assumption) ?_
          try simp only [Act.put, List.setIfInBounds_toArray, List.set_cons_zero, List.set_cons_succ]
          refine wpAnyH_take (i := 18) (oi := { dst := some 91, op := Op.indexAddr 49 (Operand.tmp 90) (Operand.const (Value.int IntKind.i64 1)), type := 0, pos := "law.go:122", after := #[{ on := 17, ground := Ground.data }, { on := 9, ground := Ground.guard }], guard := some (9, true) }) (v := undef) rfl (by kernel_rfl) (by kernel_rfl) (by kernel_rfl) (fun _ _ _ h => h) (Or.inr ⟨by rfl, rfl⟩) (by assumption) ?_
          try simp only [Act.put, List.setIfInBounds_toArray, List.set_cons_zero, List.set_cons_succ]
          refine wpAnyH_take (i := 19) (oi := { dst := some 92, op := Op.load 24 (Operand.tmp 91), type := 24, pos := "law.go:122", after := #[{ on := 18, ground := Ground.data }, { on := 9, ground := Ground.guard }], guard := some (9, true) }) (v := undef) rfl (by kernel_rfl) (by kernel_rfl) (by kernel_rfl) (fun _ _ _ h => h) (Or.inr ⟨by rfl, rfl⟩) (by assumption) ?_
          try simp only [Act.put, List.setIfInBounds_toArray, List.set_cons_zero, List.set_cons_succ]
          refine wpAnyH_take (i := 20) (oi := { dst := some 93, op := Op.call { callee := Callee.value (Operand.func 25), args := #[Operand.tmp 87, Operand.tmp 92], argTypes := #[24, 24] }, type := 24, pos := "law.go:122", after := #[{ on := 14, ground := Ground.data }, { on := 19, ground := Ground.data }, { on := 9, ground := Ground.chain }, { on := 9, ground := Ground.guard }], guard := some (9, true) }) (v := undef) rfl (by kernel_rfl) (by kernel_rfl) (by kernel_rfl) (fun _ _ _ h => h) (Or.inr ⟨by rfl, rfl⟩) (by assumption) ?_
          try simp only [Act.put, List.setIfInBounds_toArray, List.set_cons_zero, List.set_cons_succ]
          refine wpAnyH_take (i := 21) (oi := { dst := some 94, op := Op.move (Operand.tmp 16), type := 47, pos := "law.go:122", after := #[{ on := 9, ground := Ground.guard }], guard := some (9, true) }) (v := undef) rfl (by kernel_rfl) (by kernel_rfl) (by kernel_rfl) (fun _ _ _ h => h) (Or.inr ⟨by rfl, rfl⟩) (by assumption) ?_
          try simp only [Act.put, List.setIfInBounds_toArray, List.set_cons_zero, List.set_cons_succ]
          refine wpAnyH_take (i := 22) (oi := { dst := some 95, op := Op.move (Operand.tmp 17), type := 3, pos := "law.go:122", after := #[{ on := 9, ground := Ground.guard }], guard := some (9, true) }) (v := undef) rfl (by kernel_rfl) (by kernel_rfl) (by kernel_rfl) (fun _ _ _ h => h) (Or.inr ⟨by rfl, rfl⟩) (by assumption) ?_
          try simp only [Act.put, List.setIfInBounds_toArray, List.set_cons_zero, List.set_cons_succ]
          refine wpAnyH_take (i := 23) (oi := { dst := some 96, op := Op.indexAddr 47 (Operand.tmp 94) (Operand.tmp 95), type := 0, pos := "law.go:122", after := #[{ on := 21, ground := Ground.data }, { on := 22, ground := Ground.data }, { on := 9, ground := Ground.guard }], guard := some (9, true) }) (v := undef) rfl (by kernel_rfl) (by kernel_rfl) (by kernel_rfl) (fun _ _ _ h => h) (Or.inr ⟨by rfl, rfl⟩) (by assumption) ?_
          try simp only [Act.put, List.setIfInBounds_toArray, List.set_cons_zero, List.set_cons_succ]
          refine wpAnyH_take (i := 24) (oi := { dst := some 97, op := Op.indexAddr 49 (Operand.tmp 96) (Operand.const (Value.int IntKind.i64 0)), type := 0, pos := "law.go:122", after := #[{ on := 23, ground := Ground.data }, { on := 9, ground := Ground.guard }], guard := some (9, true) }) (v := undef) rfl (by kernel_rfl) (by kernel_rfl) (by kernel_rfl) (fun _ _ _ h => h) (Or.inr ⟨by rfl, rfl⟩) (by assumption) ?_
          try simp only [Act.put, List.setIfInBounds_toArray, List.set_cons_zero, List.set_cons_succ]
          refine wpAnyH_take (i := 25) (oi := { dst := some 98, op := Op.load 24 (Operand.tmp 97), type := 24, pos := "law.go:122", after := #[{ on := 24, ground := Ground.data }, { on := 9, ground := Ground.guard }], guard := some (9, true) }) (v := undef) rfl (by kernel_rfl) (by kernel_rfl) (by kernel_rfl) (fun _ _ _ h => h) (Or.inr ⟨by rfl, rfl⟩) (by assumption) ?_
          try simp only [Act.put, List.setIfInBounds_toArray, List.set_cons_zero, List.set_cons_succ]
          refine wpAnyH_take (i := 26) (oi := { dst := some 99, op := Op.move (Operand.tmp 16), type := 47, pos := "law.go:122", after := #[{ on := 9, ground := Ground.guard }], guard := some (9, true) }) (v := undef) rfl (by kernel_rfl) (by kernel_rfl) (by kernel_rfl) (fun _ _ _ h => h) (Or.inr ⟨by rfl, rfl⟩) (by assumption) ?_
          try simp only [Act.put, List.setIfInBounds_toArray, List.set_cons_zero, List.set_cons_succ]
          refine wpAnyH_take (i := 27) (oi := { dst := some 100, op := Op.move (Operand.tmp 17), type := 3, pos := "law.go:122", after := #[{ on := 9, ground := Ground.guard }], guard := some (9, true) }) (v := undef) rfl (by kernel_rfl) (by kernel_rfl) (by kernel_rfl) (fun _ _ _ h => h) (Or.inr ⟨by rfl, rfl⟩) (by assumption) ?_
          try simp only [Act.put, List.setIfInBounds_toArray, List.set_cons_zero, List.set_cons_succ]
          refine wpAnyH_take (i := 28) (oi := { dst := some 101, op := Op.indexAddr 47 (Operand.tmp 99) (Operand.tmp 100), type := 0, pos := "law.go:122", after := #[{ on := 26, ground := Ground.data }, { on := 27, ground := Ground.data }, { on := 9, ground := Ground.guard }], guard := some (9, true) }) (v := undef) rfl (by kernel_rfl) (by kernel_rfl) (by kernel_rfl) (fun _ _ _ h => h) (Or.inr ⟨by rfl, rfl⟩) (by assumption) ?_
          try simp only [Act.put, List.setIfInBounds_toArray, List.set_cons_zero, List.set_cons_succ]
          refine wpAnyH_take (i := 29) (oi := { dst := some 102, op := Op.indexAddr 49 (Operand.tmp 101) (Operand.const (Value.int IntKind.i64 1)), type := 0, pos := "law.go:122", after := #[{ on := 28, ground := Ground.data }, { on := 9, ground := Ground.guard }], guard := some (9, true) }) (v := undef) rfl (by kernel_rfl) (by kernel_rfl) (by kernel_rfl) (fun _ _ _ h => h) (Or.inr ⟨by rfl, rfl⟩) (by assumption) ?_
          try simp only [Act.put, List.setIfInBounds_toArray, List.set_cons_zero, List.set_cons_succ]
          refine wpAnyH_take (i := 30) (oi := { dst := some 103, op := Op.load 24 (Operand.tmp 102), type := 24, pos := "law.go:122", after := #[{ on := 29, ground := Ground.data }, { on := 9, ground := Ground.guard }], guard := some (9, true) }) (v := undef) rfl (by kernel_rfl) (by kernel_rfl) (by kernel_rfl) (fun _ _ _ h => h) (Or.inr ⟨by rfl, rfl⟩) (by assumption) ?_
          try simp only [Act.put, List.setIfInBounds_toArray, List.set_cons_zero, List.set_cons_succ]
          refine wpAnyH_take (i := 31) (oi := { dst := some 104, op := Op.call { callee := Callee.value (Operand.func 25), args := #[Operand.tmp 98, Operand.tmp 103], argTypes := #[24, 24] }, type := 24, pos := "law.go:122", after := #[{ on := 25, ground := Ground.data }, { on := 30, ground := Ground.data }, { on := 20, ground := Ground.chain }, { on := 9, ground := Ground.guard }], guard := some (9, true) }) (v := undef) rfl (by kernel_rfl) (by kernel_rfl) (by kernel_rfl) (fun _ _ _ h => h) (Or.inr ⟨by rfl, rfl⟩) (by assumption) ?_
          try simp only [Act.put, List.setIfInBounds_toArray, List.set_cons_zero, List.set_cons_succ]
          refine wpAnyH_take (i := 32) (oi := { dst := some 105, op := Op.binOp BinOp.eql 24 (Operand.tmp 93) (Operand.tmp 104) 24, type := 4, pos := "law.go:122", after := #[{ on := 20, ground := Ground.data }, { on := 31, ground := Ground.data }, { on := 9, ground := Ground.guard }], guard := some (9, true) }) (v := undef) rfl (by kernel_rfl) (by kernel_rfl) (by kernel_rfl) (fun _ _ _ h => h) (Or.inr ⟨by rfl, rfl⟩) (by assumption) ?_
          try simp only [Act.put, List.setIfInBounds_toArray, List.set_cons_zero, List.set_cons_succ]
          refine wpAnyH_take (i := 33) (oi := { dst := some 106, op := Op.pick (Operand.tmp 82) (Operand.tmp 105) (Operand.const (Value.bool false)), type := 4, pos := "law.go:122", after := #[{ on := 9, ground := Ground.data }, { on := 32, ground := Ground.data }], guard := none }) (v := ?v33_16) rfl (by kernel_rfl) (by kernel_rfl) (by kernel_rfl) (fun _ _ _ h => h) (Or.inl ⟨by rfl, ?y33_16⟩) (by assumption) ?r33_16
          case y33_16 => intro w hSw; (try dsimp only at hSw); go_simp; try with_reducible rfl
          try simp only [Act.put, List.setIfInBounds_toArray, List.set_cons_zero, List.set_cons_succ]
          refine wpAnyH_done (by kernel_rfl) ?_ _
          refine NoPanic.normal ?_
          have HM8 := Lib.hid hHeld.1
          have HNO : Hid (∀ j, j < k + 1 → ¬ Meet xs ys j) := fun j hj => by
            by_cases h : j < k
            · exact hno.out j h
            · obtain rfl : j = k := by omega
              exact MN.out (.inl (by first | rfl | trivial))
          clear hHeld hmi2 hmi hno
          go_wp2
          go_roundw
          case rel => exact ⟨k + 1, ⟨by first | rfl | go_num, by omega⟩, HNO.out, HM8.out⟩
          case measure => simp [intOf]; omega
        | false =>
          go_wp2_with fail
          refine wp_region_noPanic ?_
          refine wp_region_held_drew (S := (fun w' => Mine BW w7 w' ∧ w'.rangeAt g1 (k * 64) pa ∧ w'.rangeAt g2 (k * 64) pb)) (by kernel_rfl) ?_ (fun hHeld => ?_)
          · exact ⟨⟨hmi2.le, hmi2.bel.drew⟩, (World.rangeAt_drew _ _ _ _).2 rx, (World.rangeAt_drew _ _ _ _).2 ry⟩
          refine wpAnyH_take (i := 0) (oi := { dst := some 73, op := Op.move (Operand.tmp 15), type := 47, pos := "law.go:122", after := #[], guard := none }) (v := ?v0_17) rfl (by kernel_rfl) (by kernel_rfl) (by kernel_rfl) (fun _ _ _ h => h) (Or.inl ⟨by rfl, ?y0_17⟩) (by assumption) ?r0_17
          case y0_17 => intro w hSw; (try dsimp only at hSw); go_simp; try with_reducible rfl
          try simp only [Act.put, List.setIfInBounds_toArray, List.set_cons_zero, List.set_cons_succ]
          refine wpAnyH_take (i := 1) (oi := { dst := some 74, op := Op.move (Operand.tmp 17), type := 3, pos := "law.go:122", after := #[], guard := none }) (v := ?v1_18) rfl (by kernel_rfl) (by kernel_rfl) (by kernel_rfl) (fun _ _ _ h => h) (Or.inl ⟨by rfl, ?y1_18⟩) (by assumption) ?r1_18
          case y1_18 => intro w hSw; (try dsimp only at hSw); go_simp; try with_reducible rfl
          try simp only [Act.put, List.setIfInBounds_toArray, List.set_cons_zero, List.set_cons_succ]
          refine wpAnyH_take (i := 2) (oi := { dst := some 75, op := Op.indexAddr 47 (Operand.tmp 73) (Operand.tmp 74), type := 0, pos := "law.go:122", after := #[{ on := 0, ground := Ground.data }, { on := 1, ground := Ground.data }], guard := none }) (v := ?v2_19) rfl (by kernel_rfl) (by kernel_rfl) (by kernel_rfl) (fun _ _ _ h => h) (Or.inl ⟨by rfl, ?y2_19⟩) (by assumption) ?r2_19
          case y2_19 => intro w hSw; (try dsimp only at hSw); go_simp; try with_reducible rfl
          try simp only [Act.put, List.setIfInBounds_toArray, List.set_cons_zero, List.set_cons_succ]
          refine wpAnyH_take (i := 3) (oi := { dst := some 76, op := Op.load 49 (Operand.tmp 75), type := 49, pos := "law.go:122", after := #[{ on := 2, ground := Ground.data }], guard := none }) (v := _) rfl (by kernel_rfl) (by kernel_rfl) (by kernel_rfl) (fun _ _ _ h => h) (yieldsIf_load_mid (by rfl) _ _ rfl _ _ rfl _ _ (by intro w hSw; (try dsimp only at hSw); go_split_ands; assumption) (by assumption) rfl (by first | assumption | (simp only [*]; done))) (by assumption) ?_
          try simp only [Act.put, List.setIfInBounds_toArray, List.set_cons_zero, List.set_cons_succ]
          refine wpAnyH_take (i := 4) (oi := { dst := some 77, op := Op.move (Operand.tmp 16), type := 47, pos := "law.go:122", after := #[], guard := none }) (v := ?v4_20) rfl (by kernel_rfl) (by kernel_rfl) (by kernel_rfl) (fun _ _ _ h => h) (Or.inl ⟨by rfl, ?y4_20⟩) (by assumption) ?r4_20
          case y4_20 => intro w hSw; (try dsimp only at hSw); go_simp; try with_reducible rfl
          try simp only [Act.put, List.setIfInBounds_toArray, List.set_cons_zero, List.set_cons_succ]
          refine wpAnyH_take (i := 5) (oi := { dst := some 78, op := Op.move (Operand.tmp 17), type := 3, pos := "law.go:122", after := #[], guard := none }) (v := ?v5_21) rfl (by kernel_rfl) (by kernel_rfl) (by kernel_rfl) (fun _ _ _ h => h) (Or.inl ⟨by rfl, ?y5_21⟩) (by assumption) ?r5_21
          case y5_21 => intro w hSw; (try dsimp only at hSw); go_simp; try with_reducible rfl
          try simp only [Act.put, List.setIfInBounds_toArray, List.set_cons_zero, List.set_cons_succ]
          refine wpAnyH_take (i := 6) (oi := { dst := some 79, op := Op.indexAddr 47 (Operand.tmp 77) (Operand.tmp 78), type := 0, pos := "law.go:122", after := #[{ on := 4, ground := Ground.data }, { on := 5, ground := Ground.data }], guard := none }) (v := ?v6_22) rfl (by kernel_rfl) (by kernel_rfl) (by kernel_rfl) (fun _ _ _ h => h) (Or.inl ⟨by rfl, ?y6_22⟩) (by assumption) ?r6_22
          case y6_22 => intro w hSw; (try dsimp only at hSw); go_simp; try with_reducible rfl
          try simp only [Act.put, List.setIfInBounds_toArray, List.set_cons_zero, List.set_cons_succ]
          refine wpAnyH_take (i := 7) (oi := { dst := some 80, op := Op.load 49 (Operand.tmp 79), type := 49, pos := "law.go:122", after := #[{ on := 6, ground := Ground.data }], guard := none }) (v := _) rfl (by kernel_rfl) (by kernel_rfl) (by kernel_rfl) (fun _ _ _ h => h) (yieldsIf_load_mid (by rfl) _ _ rfl _ _ rfl _ _ (by intro w hSw; (try dsimp only at hSw); go_split_ands; assumption) (by assumption) rfl (by first | assumption | (simp only [*]; done))) (by assumption) ?_
          try simp only [Act.put, List.setIfInBounds_toArray, List.set_cons_zero, List.set_cons_succ]
          refine wpAnyH_take (i := 8) (oi := { dst := some 81, op := Op.binOp BinOp.neq 49 (Operand.tmp 76) (Operand.tmp 80) 49, type := 4, pos := "law.go:122", after := #[{ on := 3, ground := Ground.data }, { on := 7, ground := Ground.data }], guard := none }) (v := ?v8_23) rfl (by kernel_rfl) (by kernel_rfl) (by kernel_rfl) (fun _ _ _ h => h) (Or.inl ⟨by rfl, ?y8_23⟩) (by assumption) ?r8_23
          case y8_23 => intro w hSw; (try dsimp only at hSw); go_simp; try with_reducible rfl
          try simp only [Act.put, List.setIfInBounds_toArray, List.set_cons_zero, List.set_cons_succ]
          refine wpAnyH_take (i := 9) (oi := { dst := some 82, op := Op.move (Operand.tmp 81), type := 4, pos := "law.go:122", after := #[{ on := 8, ground := Ground.data }], guard := none }) (v := ?v9_24) rfl (by kernel_rfl) (by kernel_rfl) (by kernel_rfl) (fun _ _ _ h => h) (Or.inl ⟨by rfl, ?y9_24⟩) (by assumption) ?r9_24
          case y9_24 => intro w hSw; (try dsimp only at hSw); go_simp; try with_reducible rfl
          try simp only [Act.put, List.setIfInBounds_toArray, List.set_cons_zero, List.set_cons_succ]
          refine wpAnyH_with (E := fun w' => ((w'.rangeAt g1 (k * 64) a1 ∧ w'.rangeAt g1 (k * 64 + 32) a2) ∧ w'.rangeAt g2 (k * 64) b1 ∧ w'.rangeAt g2 (k * 64 + 32) b2)) (by (try dsimp only); exact ⟨⟨(World.rangeAt_drew _ _ _ _).2 hhx.1, (World.rangeAt_drew _ _ _ _).2 hhx.2⟩, (World.rangeAt_drew _ _ _ _).2 hhy.1, (World.rangeAt_drew _ _ _ _).2 hhy.2⟩) hHeld (fun hHeld => ?_)
          try dsimp only at hHeld
          refine wpAnyH_take (i := 10) (oi := { dst := some 83, op := Op.move (Operand.tmp 15), type := 47, pos := "law.go:122", after := #[{ on := 9, ground := Ground.guard }], guard := some (9, true) }) (v := ?v10_25) rfl (by kernel_rfl) (by kernel_rfl) (by kernel_rfl) (fun _ _ _ h => h) (Or.inl ⟨by rfl, ?y10_25⟩) (by assumption) ?r10_25
          case y10_25 => intro w hSw; (try dsimp only at hSw); go_simp; try with_reducible rfl
          try simp only [Act.put, List.setIfInBounds_toArray, List.set_cons_zero, List.set_cons_succ]
          refine wpAnyH_take (i := 11) (oi := { dst := some 84, op := Op.move (Operand.tmp 17), type := 3, pos := "law.go:122", after := #[{ on := 9, ground := Ground.guard }], guard := some (9, true) }) (v := ?v11_26) rfl (by kernel_rfl) (by kernel_rfl) (by kernel_rfl) (fun _ _ _ h => h) (Or.inl ⟨by rfl, ?y11_26⟩) (by assumption) ?r11_26
          case y11_26 => intro w hSw; (try dsimp only at hSw); go_simp; try with_reducible rfl
          try simp only [Act.put, List.setIfInBounds_toArray, List.set_cons_zero, List.set_cons_succ]
          refine wpAnyH_take (i := 12) (oi := { dst := some 85, op := Op.indexAddr 47 (Operand.tmp 83) (Operand.tmp 84), type := 0, pos := "law.go:122", after := #[{ on := 10, ground := Ground.data }, { on := 11, ground := Ground.data }, { on := 9, ground := Ground.guard }], guard := some (9, true) }) (v := ?v12_27) rfl (by kernel_rfl) (by kernel_rfl) (by kernel_rfl) (fun _ _ _ h => h) (Or.inl ⟨by rfl, ?y12_27⟩) (by assumption) ?r12_27
          case y12_27 => intro w hSw; (try dsimp only at hSw); go_simp; try with_reducible rfl
          try simp only [Act.put, List.setIfInBounds_toArray, List.set_cons_zero, List.set_cons_succ]
          refine wpAnyH_take (i := 13) (oi := { dst := some 86, op := Op.indexAddr 49 (Operand.tmp 85) (Operand.const (Value.int IntKind.i64 0)), type := 0, pos := "law.go:122", after := #[{ on := 12, ground := Ground.data }, { on := 9, ground := Ground.guard }], guard := some (9, true) }) (v := ?v13_28) rfl (by kernel_rfl) (by kernel_rfl) (by kernel_rfl) (fun _ _ _ h => h) (Or.inl ⟨by rfl, ?y13_28⟩) (by assumption) ?r13_28
          case y13_28 => intro w hSw; (try dsimp only at hSw); go_simp; try with_reducible rfl
          try simp only [Act.put, List.setIfInBounds_toArray, List.set_cons_zero, List.set_cons_succ]
          refine wpAnyH_take (i := 14) (oi := { dst := some 87, op := Op.load 24 (Operand.tmp 86), type := 24, pos := "law.go:122", after := #[{ on := 13, ground := Ground.data }, { on := 9, ground := Ground.guard }], guard := some (9, true) }) (v := _) rfl (by kernel_rfl) (by kernel_rfl) (by kernel_rfl) (fun _ _ _ h => h) (yieldsIf_load_mid (by rfl) _ _ rfl _ _ rfl _ _ (by intro w hSw; (try dsimp only at hSw); go_split_ands; assumption) (by assumption) rfl (by first | assumption | (simp only [*]; done))) (by assumption) ?_
          try simp only [Act.put, List.setIfInBounds_toArray, List.set_cons_zero, List.set_cons_succ]
          refine wpAnyH_take (i := 15) (oi := { dst := some 88, op := Op.move (Operand.tmp 15), type := 47, pos := "law.go:122", after := #[{ on := 9, ground := Ground.guard }], guard := some (9, true) }) (v := ?v15_29) rfl (by kernel_rfl) (by kernel_rfl) (by kernel_rfl) (fun _ _ _ h => h) (Or.inl ⟨by rfl, ?y15_29⟩) (by assumption) ?r15_29
          case y15_29 => intro w hSw; (try dsimp only at hSw); go_simp; try with_reducible rfl
          try simp only [Act.put, List.setIfInBounds_toArray, List.set_cons_zero, List.set_cons_succ]
          refine wpAnyH_take (i := 16) (oi := { dst := some 89, op := Op.move (Operand.tmp 17), type := 3, pos := "law.go:122", after := #[{ on := 9, ground := Ground.guard }], guard := some (9, true) }) (v := ?v16_30) rfl (by kernel_rfl) (by kernel_rfl) (by kernel_rfl) (fun _ _ _ h => h) (Or.inl ⟨by rfl, ?y16_30⟩) (by assumption) ?r16_30
          case y16_30 => intro w hSw; (try dsimp only at hSw); go_simp; try with_reducible rfl
          try simp only [Act.put, List.setIfInBounds_toArray, List.set_cons_zero, List.set_cons_succ]
          refine wpAnyH_take (i := 17) (oi := { dst := some 90, op := Op.indexAddr 47 (Operand.tmp 88) (Operand.tmp 89), type := 0, pos := "law.go:122", after := #[{ on := 15, ground := Ground.data }, { on := 16, ground := Ground.data }, { on := 9, ground := Ground.guard }], guard := some (9, true) }) (v := ?v17_31) rfl (by kernel_rfl) (by kernel_rfl) (by kernel_rfl) (fun _ _ _ h => h) (Or.inl ⟨by rfl, ?y17_31⟩) (by assumption) ?r17_31
          case y17_31 => intro w hSw; (try dsimp only at hSw); go_simp; try with_reducible rfl
          try simp only [Act.put, List.setIfInBounds_toArray, List.set_cons_zero, List.set_cons_succ]
          refine wpAnyH_take (i := 18) (oi := { dst := some 91, op := Op.indexAddr 49 (Operand.tmp 90) (Operand.const (Value.int IntKind.i64 1)), type := 0, pos := "law.go:122", after := #[{ on := 17, ground := Ground.data }, { on := 9, ground := Ground.guard }], guard := some (9, true) }) (v := ?v18_32) rfl (by kernel_rfl) (by kernel_rfl) (by kernel_rfl) (fun _ _ _ h => h) (Or.inl ⟨by rfl, ?y18_32⟩) (by assumption) ?r18_32
          case y18_32 => intro w hSw; (try dsimp only at hSw); go_simp; try with_reducible rfl
          try simp only [Act.put, List.setIfInBounds_toArray, List.set_cons_zero, List.set_cons_succ]
          refine wpAnyH_take (i := 19) (oi := { dst := some 92, op := Op.load 24 (Operand.tmp 91), type := 24, pos := "law.go:122", after := #[{ on := 18, ground := Ground.data }, { on := 9, ground := Ground.guard }], guard := some (9, true) }) (v := _) rfl (by kernel_rfl) (by kernel_rfl) (by kernel_rfl) (fun _ _ _ h => h) (yieldsIf_load_mid (by rfl) _ _ rfl _ _ rfl _ _ (by intro w hSw; (try dsimp only at hSw); go_split_ands; assumption) (by assumption) rfl (by first | assumption | (simp only [*]; done))) (by assumption) ?_
          try simp only [Act.put, List.setIfInBounds_toArray, List.set_cons_zero, List.set_cons_succ]
          refine wpAnyH_take (i := 21) (oi := { dst := some 94, op := Op.move (Operand.tmp 16), type := 47, pos := "law.go:122", after := #[{ on := 9, ground := Ground.guard }], guard := some (9, true) }) (v := ?v21_33) rfl (by kernel_rfl) (by kernel_rfl) (by kernel_rfl) (fun _ _ _ h => h) (Or.inl ⟨by rfl, ?y21_33⟩) (by assumption) ?r21_33
          case y21_33 => intro w hSw; (try dsimp only at hSw); go_simp; try with_reducible rfl
          try simp only [Act.put, List.setIfInBounds_toArray, List.set_cons_zero, List.set_cons_succ]
          refine wpAnyH_take (i := 22) (oi := { dst := some 95, op := Op.move (Operand.tmp 17), type := 3, pos := "law.go:122", after := #[{ on := 9, ground := Ground.guard }], guard := some (9, true) }) (v := ?v22_34) rfl (by kernel_rfl) (by kernel_rfl) (by kernel_rfl) (fun _ _ _ h => h) (Or.inl ⟨by rfl, ?y22_34⟩) (by assumption) ?r22_34
          case y22_34 => intro w hSw; (try dsimp only at hSw); go_simp; try with_reducible rfl
          try simp only [Act.put, List.setIfInBounds_toArray, List.set_cons_zero, List.set_cons_succ]
          refine wpAnyH_take (i := 23) (oi := { dst := some 96, op := Op.indexAddr 47 (Operand.tmp 94) (Operand.tmp 95), type := 0, pos := "law.go:122", after := #[{ on := 21, ground := Ground.data }, { on := 22, ground := Ground.data }, { on := 9, ground := Ground.guard }], guard := some (9, true) }) (v := ?v23_35) rfl (by kernel_rfl) (by kernel_rfl) (by kernel_rfl) (fun _ _ _ h => h) (Or.inl ⟨by rfl, ?y23_35⟩) (by assumption) ?r23_35
          case y23_35 => intro w hSw; (try dsimp only at hSw); go_simp; try with_reducible rfl
          try simp only [Act.put, List.setIfInBounds_toArray, List.set_cons_zero, List.set_cons_succ]
          refine wpAnyH_take (i := 24) (oi := { dst := some 97, op := Op.indexAddr 49 (Operand.tmp 96) (Operand.const (Value.int IntKind.i64 0)), type := 0, pos := "law.go:122", after := #[{ on := 23, ground := Ground.data }, { on := 9, ground := Ground.guard }], guard := some (9, true) }) (v := ?v24_36) rfl (by kernel_rfl) (by kernel_rfl) (by kernel_rfl) (fun _ _ _ h => h) (Or.inl ⟨by rfl, ?y24_36⟩) (by assumption) ?r24_36
          case y24_36 => intro w hSw; (try dsimp only at hSw); go_simp; try with_reducible rfl
          try simp only [Act.put, List.setIfInBounds_toArray, List.set_cons_zero, List.set_cons_succ]
          refine wpAnyH_take (i := 25) (oi := { dst := some 98, op := Op.load 24 (Operand.tmp 97), type := 24, pos := "law.go:122", after := #[{ on := 24, ground := Ground.data }, { on := 9, ground := Ground.guard }], guard := some (9, true) }) (v := _) rfl (by kernel_rfl) (by kernel_rfl) (by kernel_rfl) (fun _ _ _ h => h) (yieldsIf_load_mid (by rfl) _ _ rfl _ _ rfl _ _ (by intro w hSw; (try dsimp only at hSw); go_split_ands; assumption) (by assumption) rfl (by first | assumption | (simp only [*]; done))) (by assumption) ?_
          try simp only [Act.put, List.setIfInBounds_toArray, List.set_cons_zero, List.set_cons_succ]
          refine wpAnyH_take (i := 26) (oi := { dst := some 99, op := Op.move (Operand.tmp 16), type := 47, pos := "law.go:122", after := #[{ on := 9, ground := Ground.guard }], guard := some (9, true) }) (v := ?v26_37) rfl (by kernel_rfl) (by kernel_rfl) (by kernel_rfl) (fun _ _ _ h => h) (Or.inl ⟨by rfl, ?y26_37⟩) (by assumption) ?r26_37
          case y26_37 => intro w hSw; (try dsimp only at hSw); go_simp; try with_reducible rfl
          try simp only [Act.put, List.setIfInBounds_toArray, List.set_cons_zero, List.set_cons_succ]
          refine wpAnyH_take (i := 27) (oi := { dst := some 100, op := Op.move (Operand.tmp 17), type := 3, pos := "law.go:122", after := #[{ on := 9, ground := Ground.guard }], guard := some (9, true) }) (v := ?v27_38) rfl (by kernel_rfl) (by kernel_rfl) (by kernel_rfl) (fun _ _ _ h => h) (Or.inl ⟨by rfl, ?y27_38⟩) (by assumption) ?r27_38
          case y27_38 => intro w hSw; (try dsimp only at hSw); go_simp; try with_reducible rfl
          try simp only [Act.put, List.setIfInBounds_toArray, List.set_cons_zero, List.set_cons_succ]
          refine wpAnyH_take (i := 28) (oi := { dst := some 101, op := Op.indexAddr 47 (Operand.tmp 99) (Operand.tmp 100), type := 0, pos := "law.go:122", after := #[{ on := 26, ground := Ground.data }, { on := 27, ground := Ground.data }, { on := 9, ground := Ground.guard }], guard := some (9, true) }) (v := ?v28_39) rfl (by kernel_rfl) (by kernel_rfl) (by kernel_rfl) (fun _ _ _ h => h) (Or.inl ⟨by rfl, ?y28_39⟩) (by assumption) ?r28_39
          case y28_39 => intro w hSw; (try dsimp only at hSw); go_simp; try with_reducible rfl
          try simp only [Act.put, List.setIfInBounds_toArray, List.set_cons_zero, List.set_cons_succ]
          refine wpAnyH_take (i := 29) (oi := { dst := some 102, op := Op.indexAddr 49 (Operand.tmp 101) (Operand.const (Value.int IntKind.i64 1)), type := 0, pos := "law.go:122", after := #[{ on := 28, ground := Ground.data }, { on := 9, ground := Ground.guard }], guard := some (9, true) }) (v := ?v29_40) rfl (by kernel_rfl) (by kernel_rfl) (by kernel_rfl) (fun _ _ _ h => h) (Or.inl ⟨by rfl, ?y29_40⟩) (by assumption) ?r29_40
          case y29_40 => intro w hSw; (try dsimp only at hSw); go_simp; try with_reducible rfl
          try simp only [Act.put, List.setIfInBounds_toArray, List.set_cons_zero, List.set_cons_succ]
          refine wpAnyH_take (i := 30) (oi := { dst := some 103, op := Op.load 24 (Operand.tmp 102), type := 24, pos := "law.go:122", after := #[{ on := 29, ground := Ground.data }, { on := 9, ground := Ground.guard }], guard := some (9, true) }) (v := _) rfl (by kernel_rfl) (by kernel_rfl) (by kernel_rfl) (fun _ _ _ h => h) (yieldsIf_load_mid (by rfl) _ _ rfl _ _ rfl _ _ (by intro w hSw; (try dsimp only at hSw); go_split_ands; assumption) (by assumption) rfl (by first | assumption | (simp only [*]; done))) (by assumption) ?_
          try simp only [Act.put, List.setIfInBounds_toArray, List.set_cons_zero, List.set_cons_succ]
          refine wpAnyH_ready (rs := [20]) (by kernel_rfl) (by simp) (AllReadyH.cons (o := { dst := some 93, op := Op.call { callee := Callee.value (Operand.func 25), args := #[Operand.tmp 87, Operand.tmp 92], argTypes := #[24, 24] }, type := 24, pos := "law.go:122", after := #[{ on := 14, ground := Ground.data }, { on := 19, ground := Ground.data }, { on := 9, ground := Ground.chain }, { on := 9, ground := Ground.guard }], guard := some (9, true) }) rfl (fun K hK => ?_) AllReadyH.nil)
          go_simp
          refine (N1.out _).mono ?_; rintro e w8 ⟨rfl, hb8⟩
          go_wp2_with fail
          refine hK.out _ _ ?_ (fun hHeld => ?_)
          · (try dsimp only); (go_split_ands; (repeat' apply And.intro) <;> first | assumption | exact Mine.call (by assumption) (by assumption) | exact Mine.alloc (by assumption) _ | exact Mine.setCells (by assumption) _ _ _ (by omega) | exact Mine.callN (by assumption) (by assumption) (by omega) | exact Row.belowN (by assumption) (by assumption) (by omega) | exact there_belowN (by assumption) (by assumption) (by omega) | exact rangeAt_below (by assumption) (by assumption) | exact World.rangeAt_alloc (by assumption) _ | exact World.rangeAt_setCells_apart (by assumption) _ _ _ (Or.inl (by omega)) | exact there_below (by assumption) (by assumption) | exact World.there_alloc (by assumption) _ | exact World.there_setCells (by assumption) _ _ _ | exact Row.belowS (by assumption) (by assumption) | exact Row.alloc (by assumption) _ | exact Row.setCells (by assumption) _ _ (by omega) | exact HS.below (by assumption) (by assumption) | exact SB.below (by assumption) (by assumption) | exact HS.alloc (by assumption) _ | exact Box.call (by assumption) (by assumption) | exact Box.alloc (by assumption) _ | exact Box.put (by assumption) _ (by assumption) | exact OHP.alloc (by assumption) _ | exact OHP.below (by assumption) (by assumption) | exact OHP.put (by assumption) _ _ (by omega) | exact Kept.call (by assumption) (by assumption) | exact Kept.alloc (by assumption) _ | exact Kept.setCells (by assumption) _ _ _ (by omega) | exact World.rangeAt_drew _ _ _ _ | exact cell_below (by assumption) (by assumption) | exact Lib.cell?_alloc_some _ (by assumption))
          clear hK K
          try simp only [Act.put, List.setIfInBounds_toArray, List.set_cons_zero, List.set_cons_succ]
          refine wpAnyH_ready (rs := [31]) (by kernel_rfl) (by simp) (AllReadyH.cons (o := { dst := some 104, op := Op.call { callee := Callee.value (Operand.func 25), args := #[Operand.tmp 98, Operand.tmp 103], argTypes := #[24, 24] }, type := 24, pos := "law.go:122", after := #[{ on := 25, ground := Ground.data }, { on := 30, ground := Ground.data }, { on := 20, ground := Ground.chain }, { on := 9, ground := Ground.guard }], guard := some (9, true) }) rfl (fun K hK => ?_) AllReadyH.nil)
          go_simp
          refine (N2.out _).mono ?_; rintro e w9 ⟨rfl, hb9⟩
          go_wp2_with fail
          refine hK.out _ _ ?_ (fun hHeld => ?_)
          · (try dsimp only); (go_split_ands; (repeat' apply And.intro) <;> first | assumption | exact Mine.call (by assumption) (by assumption) | exact Mine.alloc (by assumption) _ | exact Mine.setCells (by assumption) _ _ _ (by omega) | exact Mine.callN (by assumption) (by assumption) (by omega) | exact Row.belowN (by assumption) (by assumption) (by omega) | exact there_belowN (by assumption) (by assumption) (by omega) | exact rangeAt_below (by assumption) (by assumption) | exact World.rangeAt_alloc (by assumption) _ | exact World.rangeAt_setCells_apart (by assumption) _ _ _ (Or.inl (by omega)) | exact there_below (by assumption) (by assumption) | exact World.there_alloc (by assumption) _ | exact World.there_setCells (by assumption) _ _ _ | exact Row.belowS (by assumption) (by assumption) | exact Row.alloc (by assumption) _ | exact Row.setCells (by assumption) _ _ (by omega) | exact HS.below (by assumption) (by assumption) | exact SB.below (by assumption) (by assumption) | exact HS.alloc (by assumption) _ | exact Box.call (by assumption) (by assumption) | exact Box.alloc (by assumption) _ | exact Box.put (by assumption) _ (by assumption) | exact OHP.alloc (by assumption) _ | exact OHP.below (by assumption) (by assumption) | exact OHP.put (by assumption) _ _ (by omega) | exact Kept.call (by assumption) (by assumption) | exact Kept.alloc (by assumption) _ | exact Kept.setCells (by assumption) _ _ _ (by omega) | exact World.rangeAt_drew _ _ _ _ | exact cell_below (by assumption) (by assumption) | exact Lib.cell?_alloc_some _ (by assumption))
          clear hK K
          try simp only [Act.put, List.setIfInBounds_toArray, List.set_cons_zero, List.set_cons_succ]
          refine wpAnyH_take (i := 32) (oi := { dst := some 105, op := Op.binOp BinOp.eql 24 (Operand.tmp 93) (Operand.tmp 104) 24, type := 4, pos := "law.go:122", after := #[{ on := 20, ground := Ground.data }, { on := 31, ground := Ground.data }, { on := 9, ground := Ground.guard }], guard := some (9, true) }) (v := ?v32_41) rfl (by kernel_rfl) (by kernel_rfl) (by kernel_rfl) (fun _ _ _ h => h) (Or.inl ⟨by rfl, ?y32_41⟩) (by assumption) ?r32_41
          case y32_41 => intro w hSw; (try dsimp only at hSw); go_simp; try with_reducible rfl
          try simp only [Act.put, List.setIfInBounds_toArray, List.set_cons_zero, List.set_cons_succ]
          refine wpAnyH_take (i := 33) (oi := { dst := some 106, op := Op.pick (Operand.tmp 82) (Operand.tmp 105) (Operand.const (Value.bool false)), type := 4, pos := "law.go:122", after := #[{ on := 9, ground := Ground.data }, { on := 32, ground := Ground.data }], guard := none }) (v := ?v33_42) rfl (by kernel_rfl) (by kernel_rfl) (by kernel_rfl) (fun _ _ _ h => h) (Or.inl ⟨by rfl, ?y33_42⟩) (by assumption) ?r33_42
          case y33_42 => intro w hSw; (try dsimp only at hSw); go_simp; try with_reducible rfl
          try simp only [Act.put, List.setIfInBounds_toArray, List.set_cons_zero, List.set_cons_succ]
          refine wpAnyH_done (by kernel_rfl) ?_ _
          refine NoPanic.normal ?_
          have HM8 := Lib.hid hHeld.1.1
          clear hHeld hmi2
          cases e with
          | true =>
            have hfin : Below A w w9 := by
              have h1 : Below BW w7 w9 := HM8.out.bel
              exact HM7.out.bel.trans (h1.mono (by rw [← HBW.out]; exact HM7.out.le))
            have HFIN := Lib.hid hfin
            clear hfin
            go_wp2
            go_ret
            exact ⟨rfl, by first | exact HFIN.out | (rw [hA]; exact HFIN.out)⟩
          | false =>
            have HNO : Hid (∀ j, j < k + 1 → ¬ Meet xs ys j) := fun j hj => by
              by_cases h : j < k
              · exact hno.out j h
              · obtain rfl : j = k := by omega
                exact MN.out (.inr (by first | rfl | trivial))
            clear hmi hno
            go_wp2
            go_roundw
            case rel => exact ⟨k + 1, ⟨by first | rfl | go_num, by omega⟩, HNO.out, HM8.out⟩
            case measure => simp [intOf]; omega
      · exact absurd HMT.out (hno.out k0 (by omega))
  · have q1 : ((P : Int) != (Q : Int)) = true := by simp; omega
    have q2 : (P != Q) = true := by simp; omega
    go_wp2
    go_ret
    exact ⟨rfl, by rw [hA]; exact HM5.out.bel⟩
end Go.Proofs.Ytkipnhhdlohnfaa

/- awake of law05. -/
import Derived.RangeFuncNested
import Derived.RangeFuncBound
import Derived.RangeFuncCalls
import Derived.RangeFuncLeaves
import Derived.Shelf.Abstract
import Derived.Shelf.RegionOpen
import Derived.WalkKit
import Derived.OwnWalkIn
import Derived.TacticsInMore
import Derived.LoopNIn
import Derived.LoopIn
import Derived.Outline
import Derived.Lib.Hide
import Derived.Lib.SliceRun
import Derived.IntWalk
import Derived.WalkLawsBesides
import Derived.WalkSpells
import Derived.Laws.BitsAllLaws
import Derived.Lib.ConvBytes
import Derived.Maps.AppendAt
import Derived.Lib.AppendStr
import Derived.Lib.SlBytesConst
import Derived.Laws.AppendOwnNone
import Derived.Laws.OwnMore
import Derived.Laws.BytesArg
import Derived.Deep.RegionHeld3
import Derived.BigQuiet
import Derived.Deep.RegionLaw
import Derived.Deep.QuietTactic
import Derived.Lib.OthersKept
import Derived.Test.YtkipnhhdlohnfaaProg
import Derived.Deep.DeepFit
import Derived.Test.YtkipnhhdlohnfaaMkI
set_option linter.unusedVariables false
set_option linter.unusedSimpArgs false
namespace Go.Proofs.Ytkipnhhdlohnfaa
open Go Go.RowKit Go.Shelf

/-- a slice of sums, new -/
theorem HS_new (w : World) (ls : List (List UInt8)) (cs : List Value) (h : cs = encS ls) (h32 : ∀ x ∈ ls, x.length = 32) (hm : ls.length ≤ 1000) (n : Nat) (hn : n = ls.length) : HS (w.alloc (.cells cs.toArray 24)) (.slice (some ⟨w.heap.size, 0, none⟩) n n) ls := by
  subst h hn
  refine ⟨h32, .inr ⟨_, ls.length, rfl, by omega, fun _ => ⟨w.heap.size, 0, rfl, fun i hi => ?_⟩⟩⟩
  intro j v hj
  have hx : ls[i]? = some (ls[i]'hi) := List.getElem?_eq_getElem hi
  rw [hx] at hj
  simp only [Option.getD_some] at hj
  have hj32 : j < 32 := by
    have := (List.getElem?_eq_some_iff.1 hj).1
    rw [enc8_len, h32 _ (List.getElem_mem hi)] at this
    exact this
  rw [(Row.new w (encS ls).toArray 24).cell (0 + i * 32 + j), Nat.zero_add]
  exact (encS_get ls h32 i j _ hx hj32).trans hj
/-- three arrays' variables, filled -/
theorem three_filled (w : World) (a b c : List Value) : ∃ X0 X1 X2 W A, ((w.alloc (.cells #[.int .u8 0, .int .u8 0, .int .u8 0, .int .u8 0, .int .u8 0, .int .u8 0, .int .u8 0, .int .u8 0, .int .u8 0, .int .u8 0, .int .u8 0, .int .u8 0, .int .u8 0, .int .u8 0, .int .u8 0, .int .u8 0, .int .u8 0, .int .u8 0, .int .u8 0, .int .u8 0, .int .u8 0, .int .u8 0, .int .u8 0, .int .u8 0, .int .u8 0, .int .u8 0, .int .u8 0, .int .u8 0, .int .u8 0, .int .u8 0, .int .u8 0, .int .u8 0] 24)).alloc (.cells #[.int .u8 0, .int .u8 0, .int .u8 0, .int .u8 0, .int .u8 0, .int .u8 0, .int .u8 0, .int .u8 0, .int .u8 0, .int .u8 0, .int .u8 0, .int .u8 0, .int .u8 0, .int .u8 0, .int .u8 0, .int .u8 0, .int .u8 0, .int .u8 0, .int .u8 0, .int .u8 0, .int .u8 0, .int .u8 0, .int .u8 0, .int .u8 0, .int .u8 0, .int .u8 0, .int .u8 0, .int .u8 0, .int .u8 0, .int .u8 0, .int .u8 0, .int .u8 0] 24)).alloc (.cells #[.int .u8 0, .int .u8 0, .int .u8 0, .int .u8 0, .int .u8 0, .int .u8 0, .int .u8 0, .int .u8 0, .int .u8 0, .int .u8 0, .int .u8 0, .int .u8 0, .int .u8 0, .int .u8 0, .int .u8 0, .int .u8 0, .int .u8 0, .int .u8 0, .int .u8 0, .int .u8 0, .int .u8 0, .int .u8 0, .int .u8 0, .int .u8 0, .int .u8 0, .int .u8 0, .int .u8 0, .int .u8 0, .int .u8 0, .int .u8 0, .int .u8 0, .int .u8 0] 24) = X0 ∧ w.heap.size = A ∧ X0.setRow A a.toArray = X1 ∧ X1.setRow (A + 1) b.toArray = X2 ∧ X2.setRow (A + 1 + 1) c.toArray = W ∧
    Row X0 A 24 Z32 ∧ Row X1 (A + 1) 24 Z32 ∧ Row X2 (A + 1 + 1) 24 Z32 ∧ Row W A 24 a ∧ Row W (A + 1) 24 b ∧ Row W (A + 1 + 1) 24 c ∧ Mine A w W := by
  obtain ⟨X0, A, hX, hA, hsz, r0, r1, r2, hb⟩ := three_new w Z32 Z32
  refine ⟨X0, _, _, _, A, hX, hA, rfl, rfl, rfl, r0, r1.setRow_ne _ (by omega), (r2.setRow_ne _ (by omega)).setRow_ne _ (by omega), ?_, ?_, ?_, ?_⟩
  · exact ((r0.setRow a).setRow_ne _ (by omega)).setRow_ne _ (by omega)
  · exact ((r1.setRow_ne _ (by omega)).setRow b).setRow_ne _ (by omega)
  · exact ((r2.setRow_ne _ (by omega)).setRow_ne _ (by omega)).setRow c
  · exact ⟨by rw [setRow_size, setRow_size, setRow_size]; omega, below_setRow (below_setRow (below_setRow hb (Nat.le_refl A) _) (by omega) _) (by omega) _⟩

set_option maxHeartbeats 4000000 in
set_option maxRecDepth 100000 in
theorem awake05_any (w : World) : Calls Try.prog 18 #[] w fun e w' => e = .returned (.bool true) ∧ Below w.heap.size w w' := by
  have kc := fun (w : World) (C : Array Value) (n c : Nat) => Lib.run_convert_bytes_const (P := Try.prog) w 22 5 C n c Try.underlying22 Try.underlying5
  have la := leafL_length [97]
  have lb := leafL_length [98]
  have lc := leafL_length [99]
  have ha := fun (w : World) h => leaf_any (.slice (some ⟨w.heap.size, 0, none⟩) 1 1) [97] (w.alloc (.cells #[.int .u8 97] 5 (1, 2))) h (by simp)
  have hb := fun (w : World) h => leaf_any (.slice (some ⟨w.heap.size, 0, none⟩) 1 1) [98] (w.alloc (.cells #[.int .u8 98] 5 (1, 2))) h (by simp)
  have hc := fun (w : World) h => leaf_any (.slice (some ⟨w.heap.size, 0, none⟩) 1 1) [99] (w.alloc (.cells #[.int .u8 99] 5 (1, 2))) h (by simp)
  obtain ⟨a, hae⟩ : ∃ a, leafL [97] = a := ⟨_, rfl⟩
  obtain ⟨b, hbe⟩ : ∃ b, leafL [98] = b := ⟨_, rfl⟩
  obtain ⟨c, hce⟩ : ∃ c, leafL [99] = c := ⟨_, rfl⟩
  rw [hae] at la
  rw [hbe] at lb
  rw [hce] at lc
  simp only [hae] at ha
  simp only [hbe] at hb
  simp only [hce] at hc
  have Ha := Lib.hid ha
  have Hb := Lib.hid hb
  have Hc := Lib.hid hc
  have La := Lib.hid la
  have Lb := Lib.hid lb
  have Lc := Lib.hid lc
  clear ha hb hc la lb lc hae hbe hce
  have M0 : Hid (Mine w.heap.size w w) := ⟨Nat.le_refl _, Below.refl _ _⟩
  go_enter Try.func18, Try.ntmps18
  go_wp2_with fail
  refine (Ha.out w (SB_mark w #[.int .u8 97] [97] 1 (1, 2) rfl (by simp) rfl)).mono ?_
  rintro e w1 ⟨rfl, hb1⟩
  have M1 := Lib.hid (Mine.call hb1 (M0.out.alloc _))
  clear hb1 M0
  go_wp2_with fail
  refine (Hb.out w1 (SB_mark w1 #[.int .u8 98] [98] 1 (1, 2) rfl (by simp) rfl)).mono ?_
  rintro e w2 ⟨rfl, hb2⟩
  have M2 := Lib.hid (Mine.call hb2 (M1.out.alloc _))
  clear hb2 M1
  go_wp2_with fail
  refine (Hc.out w2 (SB_mark w2 #[.int .u8 99] [99] 1 (1, 2) rfl (by simp) rfl)).mono ?_
  rintro e w3 ⟨rfl, hb3⟩
  have m3 := Mine.call hb3 (M2.out.alloc _)
  obtain ⟨X0, X1, X2, W, A, hX0, hA, hX1, hX2, hW, x0, x1, x2, r0, r1, r2, hm⟩ := three_filled w3 (enc8 a) (enc8 b) (enc8 c)
  have hmW : Mine w.heap.size w W := ⟨Nat.le_trans m3.le (by rw [hA]; exact hm.le), m3.bel.trans (hm.bel.mono (by rw [← hA]; exact m3.le))⟩
  have l0 : (enc8 a).length = 32 := by rw [enc8_len, La.out]
  have l1 : (enc8 b).length = 32 := by rw [enc8_len, Lb.out]
  have l2 : (enc8 c).length = 32 := by rw [enc8_len, Lc.out]
  have i0 := info32 a La.out
  have i1 := info32 b Lb.out
  have i2 := info32 c Lc.out
  have f0 := enc8_all a
  have f1 := enc8_all b
  have f2 := enc8_all c
  have q0 := run_eql_sum b b Lb.out Lb.out
  have q1 := run_eql_sum c c Lc.out Lc.out
  have nl := nodeL_length a b
  have q2 := run_eql_sum (nodeL a b) (nodeL a b) nl nl
  simp only [beq_self_eq_true] at q0 q1 q2
  -- the way of the first of three leaves
  have hway : proofW [a, b, c] 0 = [b, c] := by
    have e3 : hlf 3 = 2 := by decide
    have e2 : hlf 2 = 1 := by decide
    unfold proofW
    rw [if_pos (by simp)]
    rw [wayL_left [a, b, c] _ (by simp) (by show _ < hlf 3; rw [e3]; decide)]
    show wayL ([a, b, c].take (hlf 3)) _ ++ [rootL ([a, b, c].drop (hlf 3))] = _
    rw [e3]
    show wayL [a, b] _ ++ [rootL [c]] = _
    rw [wayL_left [a, b] _ (by simp) (by show _ < hlf 2; rw [e2]; decide)]
    show wayL ([a, b].take (hlf 2)) _ ++ [rootL ([a, b].drop (hlf 2))] ++ [rootL [c]] = _
    rw [e2]
    show wayL [a] _ ++ [rootL [b]] ++ [rootL [c]] = _
    rw [wayL_one [a] _ (by simp), rootL_one, rootL_one]
    rfl
  have hpe : proofE [a, b, c] 0 = 0 := by unfold proofE; rw [if_pos (by simp)]
  have hroot : rootL [a, b] = nodeL a b := by
    have e2 : hlf 2 = 1 := by decide
    rw [rootL_two [a, b] (by simp)]
    show nodeL (rootL ([a, b].take (hlf 2))) (rootL ([a, b].drop (hlf 2))) = _
    rw [e2]
    show nodeL (rootL [a]) (rootL [b]) = _
    rw [rootL_one, rootL_one]
  have hp := fun (W' : World) (v : Value) (h : HS W' v [a, b, c]) => proof_any v [a, b, c] 0 W' h (by simp)
  simp only [hway, hpe] at hp
  have hr := fun (W' : World) (v : Value) (h : HS W' v [a, b]) => root_any 3 v [a, b] W' (by simp) h
  simp only [hroot] at hr
  have hn := fun (W' : World) => node_any a b La.out Lb.out W'
  have habc : ∀ x ∈ [a, b, c], x.length = 32 := by simp [La.out, Lb.out, Lc.out]
  have hab2 : ∀ x ∈ [a, b], x.length = 32 := by simp [La.out, Lb.out]
  have hs3 := fun (W' : World) (cs : List Value) (h : cs = encS [a, b, c]) => HS_new W' [a, b, c] cs h habc (by simp) 3 rfl
  have hs2 := fun (W' : World) (cs : List Value) (h : cs = encS [a, b]) => HS_new W' [a, b] cs h hab2 (by simp) 2 rfl
  have ec3 : [enc8 a, enc8 b, enc8 c].flatMap id = encS [a, b, c] := by simp [encS]
  have ec2 : [enc8 a, enc8 b].flatMap id = encS [a, b] := by simp [encS]
  obtain ⟨nd, hnd⟩ : ∃ nd, nodeL a b = nd := ⟨_, rfl⟩
  simp only [hnd] at hr hn q2 nl
  obtain ⟨aa, haa⟩ : ∃ aa, enc8 a = aa := ⟨_, rfl⟩
  obtain ⟨ab, hab⟩ : ∃ ab, enc8 b = ab := ⟨_, rfl⟩
  obtain ⟨ac, hac⟩ : ∃ ac, enc8 c = ac := ⟨_, rfl⟩
  obtain ⟨an, han⟩ : ∃ an, enc8 nd = an := ⟨_, rfl⟩
  rw [haa] at hX1 r0 l0 i0 f0 ec3 ec2
  rw [hab] at hX2 r1 l1 i1 f1 q0 ec3 ec2
  rw [hac] at hW r2 l2 i2 f2 q1 ec3
  rw [han] at q2
  simp only [haa, hab, han] at hn
  simp only [han] at hr
  rw [haa, hab, hac]
  have HX0 := Lib.hid hX0
  have HX1 := Lib.hid hX1
  have HX2 := Lib.hid hX2
  have HW := Lib.hid hW
  have S0 := Lib.hid x0
  have S1 := Lib.hid x1
  have S2 := Lib.hid x2
  have R0 := Lib.hid r0
  have R1 := Lib.hid r1
  have R2 := Lib.hid r2
  have I0 := Lib.hid i0
  have I1 := Lib.hid i1
  have I2 := Lib.hid i2
  have L0 := Lib.hid l0
  have L1 := Lib.hid l1
  have L2 := Lib.hid l2
  have F0 := Lib.hid f0
  have F1 := Lib.hid f1
  have F2 := Lib.hid f2
  have HP := Lib.hid hp
  have HR := Lib.hid hr
  have HN := Lib.hid hn
  have HS3 := Lib.hid hs3
  have HS2 := Lib.hid hs2
  have E3 := Lib.hid ec3
  have E2 := Lib.hid ec2
  have MW := Lib.hid hmW
  have Q0 := Lib.hid q0
  have Q1 := Lib.hid q1
  have Q2 := Lib.hid q2
  have HAB := Lib.hid hab
  have HAC := Lib.hid hac
  clear hX0 hX1 hX2 hW x0 x1 x2 r0 r1 r2 i0 i1 i2 l0 l1 l2 f0 f1 f2 hp hr hn hs3 hs2 ec3 ec2 hmW q0 q1 q2 haa hab hac han hnd nl hway hpe hroot habc hab2 hm m3 hb3 M2 Ha Hb Hc
  go_wp2_with (first
    | (rw [HX0.out]; refine S0.out.store (m := aa) rfl 24 (.tmp 1) (.tmp 8) rfl rfl rfl I0.out (by rw [L0.out]; rfl) F0.out ?_)
    | (rw [HX1.out]; refine S1.out.store (m := ab) rfl 24 (.tmp 2) (.tmp 11) rfl rfl rfl I1.out (by rw [L1.out]; rfl) F1.out ?_)
    | (rw [HX2.out]; refine S2.out.store (m := ac) rfl 24 (.tmp 3) (.tmp 14) rfl rfl rfl I2.out (by rw [L2.out]; rfl) F2.out ?_)
    | (rw [HW.out]; refine R0.out.load rfl 24 (.tmp 1) rfl rfl _ _ Try.underlying24 I0.out ?_)
    | (refine R1.out.load rfl 24 (.tmp 2) rfl rfl _ _ Try.underlying24 I1.out ?_)
    | (refine R2.out.load rfl 24 (.tmp 3) rfl rfl _ _ Try.underlying24 I2.out ?_)
    | (refine wpS_build rfl 3 _ rfl [aa, ab, ac] (by simp [L0.out, L1.out, L2.out]) rfl (by decide) (by decide) (by rw [Array.toList_map]; rfl) ?_; rw [E3.out]))
  refine (HP.out _ _ (HS3.out W _ rfl)).mono ?_
  rintro e w4 ⟨u, rfl, hown, hb4⟩
  obtain ⟨g, cap, rfl, -, -, -⟩ := hown.form (by simp)
  obtain ⟨-, -, g1, o1, hg1, p0⟩ := hown.reads.at_ 0 (by simp) b rfl
  cases hg1
  obtain ⟨-, -, g1, o1, hg1, p1⟩ := hown.reads.at_ 1 (by simp) c rfl
  cases hg1
  have m4 := Mine.call hb4 (MW.out.alloc _)
  have s0 := (Row.belowS hb4 (R0.out.alloc _)).range
  have s1 := (Row.belowS hb4 (R1.out.alloc _)).range
  have s2 := (Row.belowS hb4 (R2.out.alloc _)).range
  rw [HAB.out] at p0
  rw [HAC.out] at p1
  rw [show 0 + 0 * 32 = 0 by omega] at p0
  rw [show 0 + 1 * 32 = 32 by omega] at p1
  rw [show ([b, c] : List (List UInt8)).length = 2 from rfl]
  have hu := Try.underlying24
  have i0 := I0.out
  have i1 := I1.out
  have i2 := I2.out
  have q0 := Q0.out
  have q1 := Q1.out
  have q2 := Q2.out
  clear hown hb4 HX0 HX1 HX2 HW S0 S1 S2 R0 R1 R2 HP HS3 E3 MW Q0 Q1 Q2
  clear kc
  go_wp2_with fail
  refine wp_region_noPanic ?_
  refine wp_region_held_drew (S := (fun w' => Mine w.heap.size w w' ∧ w'.rangeAt A 0 aa ∧ w'.rangeAt (A + 1) 0 ab ∧ w'.rangeAt (A + 1 + 1) 0 ac ∧ w'.rangeAt g 0 ab ∧ w'.rangeAt g 32 ac)) (by kernel_rfl) ?_ (fun hHeld => ?_)
  · exact ⟨⟨m4.le, m4.bel.drew⟩, s0, s1, s2, p0, p1⟩
  refine wpAnyH_take (i := 0) (oi := { dst := some 23, op := Op.move (Operand.tmp 5), type := 34, pos := "law.go:14", after := #[], guard := none }) (v := ?v0_0) rfl (by kernel_rfl) (by kernel_rfl) (by kernel_rfl) (fun _ _ _ h => h) (Or.inl ⟨by rfl, ?y0_0⟩) (by assumption) ?r0_0
  case y0_0 => intro w hSw; (try dsimp only at hSw); go_simp; try with_reducible rfl
  try simp only [Act.put, List.setIfInBounds_toArray, List.set_cons_zero, List.set_cons_succ]
  refine wpAnyH_take (i := 1) (oi := { dst := some 24, op := Op.binOp BinOp.eql 34 (Operand.tmp 23) (Operand.const (Value.int IntKind.i64 0)) 34, type := 4, pos := "law.go:14", after := #[{ on := 0, ground := Ground.data }], guard := none }) (v := ?v1_1) rfl (by kernel_rfl) (by kernel_rfl) (by kernel_rfl) (fun _ _ _ h => h) (Or.inl ⟨by rfl, ?y1_1⟩) (by assumption) ?r1_1
  case y1_1 => intro w hSw; (try dsimp only at hSw); go_simp; try with_reducible rfl
  try simp only [Act.put, List.setIfInBounds_toArray, List.set_cons_zero, List.set_cons_succ]
  refine wpAnyH_take (i := 2) (oi := { dst := some 25, op := Op.move (Operand.tmp 24), type := 4, pos := "law.go:14", after := #[{ on := 1, ground := Ground.data }], guard := none }) (v := ?v2_2) rfl (by kernel_rfl) (by kernel_rfl) (by kernel_rfl) (fun _ _ _ h => h) (Or.inl ⟨by rfl, ?y2_2⟩) (by assumption) ?r2_2
  case y2_2 => intro w hSw; (try dsimp only at hSw); go_simp; try with_reducible rfl
  try simp only [Act.put, List.setIfInBounds_toArray, List.set_cons_zero, List.set_cons_succ]
  refine wpAnyH_take (i := 3) (oi := { dst := some 26, op := Op.move (Operand.tmp 4), type := 29, pos := "law.go:14", after := #[{ on := 2, ground := Ground.guard }], guard := some (2, true) }) (v := ?v3_3) rfl (by kernel_rfl) (by kernel_rfl) (by kernel_rfl) (fun _ _ _ h => h) (Or.inl ⟨by rfl, ?y3_3⟩) (by assumption) ?r3_3
  case y3_3 => intro w hSw; (try dsimp only at hSw); go_simp; try with_reducible rfl
  try simp only [Act.put, List.setIfInBounds_toArray, List.set_cons_zero, List.set_cons_succ]
  refine wpAnyH_take (i := 4) (oi := { dst := some 27, op := Op.call { callee := Callee.builtin Builtin.len, args := #[Operand.tmp 26], argTypes := #[29] }, type := 3, pos := "law.go:14", after := #[{ on := 3, ground := Ground.data }, { on := 2, ground := Ground.guard }], guard := some (2, true) }) (v := ?v4_4) rfl (by kernel_rfl) (by kernel_rfl) (by kernel_rfl) (fun _ _ _ h => h) (Or.inl ⟨by rfl, ?y4_4⟩) (by assumption) ?r4_4
  case y4_4 => intro w hSw; (try dsimp only at hSw); go_simp; try with_reducible rfl
  try simp only [Act.put, List.setIfInBounds_toArray, List.set_cons_zero, List.set_cons_succ]
  refine wpAnyH_take (i := 5) (oi := { dst := some 28, op := Op.binOp BinOp.eql 3 (Operand.tmp 27) (Operand.const (Value.int IntKind.i64 2)) 3, type := 4, pos := "law.go:14", after := #[{ on := 4, ground := Ground.data }, { on := 2, ground := Ground.guard }], guard := some (2, true) }) (v := ?v5_5) rfl (by kernel_rfl) (by kernel_rfl) (by kernel_rfl) (fun _ _ _ h => h) (Or.inl ⟨by rfl, ?y5_5⟩) (by assumption) ?r5_5
  case y5_5 => intro w hSw; (try dsimp only at hSw); go_simp; try with_reducible rfl
  try simp only [Act.put, List.setIfInBounds_toArray, List.set_cons_zero, List.set_cons_succ]
  refine wpAnyH_take (i := 6) (oi := { dst := some 29, op := Op.pick (Operand.tmp 25) (Operand.tmp 28) (Operand.const (Value.bool false)), type := 4, pos := "law.go:14", after := #[{ on := 2, ground := Ground.data }, { on := 5, ground := Ground.data }], guard := none }) (v := ?v6_6) rfl (by kernel_rfl) (by kernel_rfl) (by kernel_rfl) (fun _ _ _ h => h) (Or.inl ⟨by rfl, ?y6_6⟩) (by assumption) ?r6_6
  case y6_6 => intro w hSw; (try dsimp only at hSw); go_simp; try with_reducible rfl
  try simp only [Act.put, List.setIfInBounds_toArray, List.set_cons_zero, List.set_cons_succ]
  refine wpAnyH_take (i := 7) (oi := { dst := some 30, op := Op.move (Operand.tmp 29), type := 4, pos := "law.go:14", after := #[{ on := 6, ground := Ground.data }, { on := 2, ground := Ground.chain }], guard := none }) (v := ?v7_7) rfl (by kernel_rfl) (by kernel_rfl) (by kernel_rfl) (fun _ _ _ h => h) (Or.inl ⟨by rfl, ?y7_7⟩) (by assumption) ?r7_7
  case y7_7 => intro w hSw; (try dsimp only at hSw); go_simp; try with_reducible rfl
  try simp only [Act.put, List.setIfInBounds_toArray, List.set_cons_zero, List.set_cons_succ]
  refine wpAnyH_take (i := 8) (oi := { dst := some 31, op := Op.move (Operand.tmp 4), type := 29, pos := "law.go:14", after := #[{ on := 7, ground := Ground.guard }], guard := some (7, true) }) (v := ?v8_8) rfl (by kernel_rfl) (by kernel_rfl) (by kernel_rfl) (fun _ _ _ h => h) (Or.inl ⟨by rfl, ?y8_8⟩) (by assumption) ?r8_8
  case y8_8 => intro w hSw; (try dsimp only at hSw); go_simp; try with_reducible rfl
  try simp only [Act.put, List.setIfInBounds_toArray, List.set_cons_zero, List.set_cons_succ]
  refine wpAnyH_take (i := 9) (oi := { dst := some 32, op := Op.indexAddr 29 (Operand.tmp 31) (Operand.const (Value.int IntKind.i64 0)), type := 0, pos := "law.go:14", after := #[{ on := 8, ground := Ground.data }, { on := 7, ground := Ground.guard }], guard := some (7, true) }) (v := ?v9_9) rfl (by kernel_rfl) (by kernel_rfl) (by kernel_rfl) (fun _ _ _ h => h) (Or.inl ⟨by rfl, ?y9_9⟩) (by assumption) ?r9_9
  case y9_9 => intro w hSw; (try dsimp only at hSw); go_simp; try with_reducible rfl
  try simp only [Act.put, List.setIfInBounds_toArray, List.set_cons_zero, List.set_cons_succ]
  refine wpAnyH_take (i := 10) (oi := { dst := some 33, op := Op.load 24 (Operand.tmp 32), type := 24, pos := "law.go:14", after := #[{ on := 9, ground := Ground.data }, { on := 7, ground := Ground.guard }], guard := some (7, true) }) (v := _) rfl (by kernel_rfl) (by kernel_rfl) (by kernel_rfl) (fun _ _ _ h => h) (yieldsIf_load_mid (by rfl) _ _ rfl _ _ rfl _ _ (by intro w hSw; (try dsimp only at hSw); go_split_ands; assumption) (by assumption) rfl (by first | assumption | (simp only [*]; done))) (by assumption) ?_
  try simp only [Act.put, List.setIfInBounds_toArray, List.set_cons_zero, List.set_cons_succ]
  refine wpAnyH_take (i := 11) (oi := { dst := some 34, op := Op.load 24 (Operand.tmp 2), type := 24, pos := "law.go:14", after := #[{ on := 7, ground := Ground.guard }], guard := some (7, true) }) (v := _) rfl (by kernel_rfl) (by kernel_rfl) (by kernel_rfl) (fun _ _ _ h => h) (yieldsIf_load_mid (by rfl) _ _ rfl _ _ rfl _ _ (by intro w hSw; (try dsimp only at hSw); go_split_ands; assumption) (by assumption) rfl (by first | assumption | (simp only [*]; done))) (by assumption) ?_
  try simp only [Act.put, List.setIfInBounds_toArray, List.set_cons_zero, List.set_cons_succ]
  refine wpAnyH_take (i := 12) (oi := { dst := some 35, op := Op.binOp BinOp.eql 24 (Operand.tmp 33) (Operand.tmp 34) 24, type := 4, pos := "law.go:14", after := #[{ on := 10, ground := Ground.data }, { on := 11, ground := Ground.data }, { on := 7, ground := Ground.guard }], guard := some (7, true) }) (v := ?v12_10) rfl (by kernel_rfl) (by kernel_rfl) (by kernel_rfl) (fun _ _ _ h => h) (Or.inl ⟨by rfl, ?y12_10⟩) (by assumption) ?r12_10
  case y12_10 => intro w hSw; (try dsimp only at hSw); go_simp; try with_reducible rfl
  try simp only [Act.put, List.setIfInBounds_toArray, List.set_cons_zero, List.set_cons_succ]
  refine wpAnyH_take (i := 13) (oi := { dst := some 36, op := Op.pick (Operand.tmp 30) (Operand.tmp 35) (Operand.const (Value.bool false)), type := 4, pos := "law.go:14", after := #[{ on := 7, ground := Ground.data }, { on := 12, ground := Ground.data }], guard := none }) (v := ?v13_11) rfl (by kernel_rfl) (by kernel_rfl) (by kernel_rfl) (fun _ _ _ h => h) (Or.inl ⟨by rfl, ?y13_11⟩) (by assumption) ?r13_11
  case y13_11 => intro w hSw; (try dsimp only at hSw); go_simp; try with_reducible rfl
  try simp only [Act.put, List.setIfInBounds_toArray, List.set_cons_zero, List.set_cons_succ]
  refine wpAnyH_take (i := 14) (oi := { dst := some 37, op := Op.move (Operand.tmp 36), type := 4, pos := "law.go:14", after := #[{ on := 13, ground := Ground.data }, { on := 7, ground := Ground.chain }], guard := none }) (v := ?v14_12) rfl (by kernel_rfl) (by kernel_rfl) (by kernel_rfl) (fun _ _ _ h => h) (Or.inl ⟨by rfl, ?y14_12⟩) (by assumption) ?r14_12
  case y14_12 => intro w hSw; (try dsimp only at hSw); go_simp; try with_reducible rfl
  try simp only [Act.put, List.setIfInBounds_toArray, List.set_cons_zero, List.set_cons_succ]
  refine wpAnyH_take (i := 15) (oi := { dst := some 38, op := Op.move (Operand.tmp 4), type := 29, pos := "law.go:14", after := #[{ on := 14, ground := Ground.guard }], guard := some (14, true) }) (v := ?v15_13) rfl (by kernel_rfl) (by kernel_rfl) (by kernel_rfl) (fun _ _ _ h => h) (Or.inl ⟨by rfl, ?y15_13⟩) (by assumption) ?r15_13
  case y15_13 => intro w hSw; (try dsimp only at hSw); go_simp; try with_reducible rfl
  try simp only [Act.put, List.setIfInBounds_toArray, List.set_cons_zero, List.set_cons_succ]
  refine wpAnyH_take (i := 16) (oi := { dst := some 39, op := Op.indexAddr 29 (Operand.tmp 38) (Operand.const (Value.int IntKind.i64 1)), type := 0, pos := "law.go:14", after := #[{ on := 15, ground := Ground.data }, { on := 14, ground := Ground.guard }], guard := some (14, true) }) (v := ?v16_14) rfl (by kernel_rfl) (by kernel_rfl) (by kernel_rfl) (fun _ _ _ h => h) (Or.inl ⟨by rfl, ?y16_14⟩) (by assumption) ?r16_14
  case y16_14 => intro w hSw; (try dsimp only at hSw); go_simp; try with_reducible rfl
  try simp only [Act.put, List.setIfInBounds_toArray, List.set_cons_zero, List.set_cons_succ]
  refine wpAnyH_take (i := 17) (oi := { dst := some 40, op := Op.load 24 (Operand.tmp 39), type := 24, pos := "law.go:14", after := #[{ on := 16, ground := Ground.data }, { on := 14, ground := Ground.guard }], guard := some (14, true) }) (v := _) rfl (by kernel_rfl) (by kernel_rfl) (by kernel_rfl) (fun _ _ _ h => h) (yieldsIf_load_mid (by rfl) _ _ rfl _ _ rfl _ _ (by intro w hSw; (try dsimp only at hSw); go_split_ands; assumption) (by assumption) rfl (by first | assumption | (simp only [*]; done))) (by assumption) ?_
  try simp only [Act.put, List.setIfInBounds_toArray, List.set_cons_zero, List.set_cons_succ]
  refine wpAnyH_take (i := 18) (oi := { dst := some 41, op := Op.load 24 (Operand.tmp 3), type := 24, pos := "law.go:14", after := #[{ on := 14, ground := Ground.guard }], guard := some (14, true) }) (v := _) rfl (by kernel_rfl) (by kernel_rfl) (by kernel_rfl) (fun _ _ _ h => h) (yieldsIf_load_mid (by rfl) _ _ rfl _ _ rfl _ _ (by intro w hSw; (try dsimp only at hSw); go_split_ands; assumption) (by assumption) rfl (by first | assumption | (simp only [*]; done))) (by assumption) ?_
  try simp only [Act.put, List.setIfInBounds_toArray, List.set_cons_zero, List.set_cons_succ]
  refine wpAnyH_take (i := 19) (oi := { dst := some 42, op := Op.binOp BinOp.eql 24 (Operand.tmp 40) (Operand.tmp 41) 24, type := 4, pos := "law.go:14", after := #[{ on := 17, ground := Ground.data }, { on := 18, ground := Ground.data }, { on := 14, ground := Ground.guard }], guard := some (14, true) }) (v := ?v19_15) rfl (by kernel_rfl) (by kernel_rfl) (by kernel_rfl) (fun _ _ _ h => h) (Or.inl ⟨by rfl, ?y19_15⟩) (by assumption) ?r19_15
  case y19_15 => intro w hSw; (try dsimp only at hSw); go_simp; try with_reducible rfl
  try simp only [Act.put, List.setIfInBounds_toArray, List.set_cons_zero, List.set_cons_succ]
  refine wpAnyH_take (i := 20) (oi := { dst := some 43, op := Op.pick (Operand.tmp 37) (Operand.tmp 42) (Operand.const (Value.bool false)), type := 4, pos := "law.go:14", after := #[{ on := 14, ground := Ground.data }, { on := 19, ground := Ground.data }], guard := none }) (v := ?v20_16) rfl (by kernel_rfl) (by kernel_rfl) (by kernel_rfl) (fun _ _ _ h => h) (Or.inl ⟨by rfl, ?y20_16⟩) (by assumption) ?r20_16
  case y20_16 => intro w hSw; (try dsimp only at hSw); go_simp; try with_reducible rfl
  try simp only [Act.put, List.setIfInBounds_toArray, List.set_cons_zero, List.set_cons_succ]
  refine wpAnyH_take (i := 21) (oi := { dst := some 44, op := Op.move (Operand.tmp 43), type := 4, pos := "law.go:14", after := #[{ on := 20, ground := Ground.data }, { on := 14, ground := Ground.chain }], guard := none }) (v := ?v21_17) rfl (by kernel_rfl) (by kernel_rfl) (by kernel_rfl) (fun _ _ _ h => h) (Or.inl ⟨by rfl, ?y21_17⟩) (by assumption) ?r21_17
  case y21_17 => intro w hSw; (try dsimp only at hSw); go_simp; try with_reducible rfl
  try simp only [Act.put, List.setIfInBounds_toArray, List.set_cons_zero, List.set_cons_succ]
  refine wpAnyH_take (i := 22) (oi := { dst := some 45, op := Op.load 24 (Operand.tmp 1), type := 24, pos := "law.go:14", after := #[{ on := 21, ground := Ground.guard }], guard := some (21, true) }) (v := _) rfl (by kernel_rfl) (by kernel_rfl) (by kernel_rfl) (fun _ _ _ h => h) (yieldsIf_load_mid (by rfl) _ _ rfl _ _ rfl _ _ (by intro w hSw; (try dsimp only at hSw); go_split_ands; assumption) (by assumption) rfl (by first | assumption | (simp only [*]; done))) (by assumption) ?_
  try simp only [Act.put, List.setIfInBounds_toArray, List.set_cons_zero, List.set_cons_succ]
  refine wpAnyH_take (i := 23) (oi := { dst := some 46, op := Op.load 24 (Operand.tmp 2), type := 24, pos := "law.go:14", after := #[{ on := 21, ground := Ground.guard }], guard := some (21, true) }) (v := _) rfl (by kernel_rfl) (by kernel_rfl) (by kernel_rfl) (fun _ _ _ h => h) (yieldsIf_load_mid (by rfl) _ _ rfl _ _ rfl _ _ (by intro w hSw; (try dsimp only at hSw); go_split_ands; assumption) (by assumption) rfl (by first | assumption | (simp only [*]; done))) (by assumption) ?_
  try simp only [Act.put, List.setIfInBounds_toArray, List.set_cons_zero, List.set_cons_succ]
  refine wpAnyH_take (i := 26) (oi := { dst := some 49, op := Op.load 24 (Operand.tmp 1), type := 24, pos := "law.go:14", after := #[{ on := 21, ground := Ground.guard }], guard := some (21, true) }) (v := _) rfl (by kernel_rfl) (by kernel_rfl) (by kernel_rfl) (fun _ _ _ h => h) (yieldsIf_load_mid (by rfl) _ _ rfl _ _ rfl _ _ (by intro w hSw; (try dsimp only at hSw); go_split_ands; assumption) (by assumption) rfl (by first | assumption | (simp only [*]; done))) (by assumption) ?_
  try simp only [Act.put, List.setIfInBounds_toArray, List.set_cons_zero, List.set_cons_succ]
  refine wpAnyH_take (i := 27) (oi := { dst := some 50, op := Op.load 24 (Operand.tmp 2), type := 24, pos := "law.go:14", after := #[{ on := 21, ground := Ground.guard }], guard := some (21, true) }) (v := _) rfl (by kernel_rfl) (by kernel_rfl) (by kernel_rfl) (fun _ _ _ h => h) (yieldsIf_load_mid (by rfl) _ _ rfl _ _ rfl _ _ (by intro w hSw; (try dsimp only at hSw); go_split_ands; assumption) (by assumption) rfl (by first | assumption | (simp only [*]; done))) (by assumption) ?_
  try simp only [Act.put, List.setIfInBounds_toArray, List.set_cons_zero, List.set_cons_succ]
  refine wpAnyH_ready (rs := [24]) (by kernel_rfl) (by simp) (AllReadyH.cons (o := { dst := some 47, op := Op.buildSlice 29 2 #[(0, Operand.tmp 45), (1, Operand.tmp 46)], type := 29, pos := "law.go:14", after := #[{ on := 22, ground := Ground.data }, { on := 23, ground := Ground.data }, { on := 21, ground := Ground.guard }], guard := some (21, true) }) rfl (fun K hK => ?_) AllReadyH.nil)
  refine stepS_build rfl 2 _ rfl [aa, ab] (by simp [L0.out, L1.out]) rfl (by decide) (by decide) (by rw [Array.toList_map]; rfl) ?_; rw [E2.out]
  refine hK.out _ _ ?_ (fun hHeld => ?_)
  · (try dsimp only); (go_split_ands; (repeat' apply And.intro) <;> first | assumption | exact Mine.call (by assumption) (by assumption) | exact Mine.alloc (by assumption) _ | exact Mine.setCells (by assumption) _ _ _ (by omega) | exact Mine.callN (by assumption) (by assumption) (by omega) | exact Row.belowN (by assumption) (by assumption) (by omega) | exact there_belowN (by assumption) (by assumption) (by omega) | exact rangeAt_below (by assumption) (by assumption) | exact World.rangeAt_alloc (by assumption) _ | exact there_below (by assumption) (by assumption) | exact World.there_alloc (by assumption) _ | exact World.there_setCells (by assumption) _ _ _ | exact Row.belowS (by assumption) (by assumption) | exact Row.alloc (by assumption) _ | exact Row.setCells (by assumption) _ _ (by omega) | exact HS.below (by assumption) (by assumption) | exact HS.alloc (by assumption) _)
  clear hK K
  try simp only [Act.put, List.setIfInBounds_toArray, List.set_cons_zero, List.set_cons_succ]
  refine wpAnyH_ready (rs := [25]) (by kernel_rfl) (by simp) (AllReadyH.cons (o := { dst := some 48, op := Op.call { callee := Callee.value (Operand.func 22), args := #[Operand.tmp 47], argTypes := #[29] }, type := 24, pos := "law.go:14", after := #[{ on := 24, ground := Ground.data }, { on := 21, ground := Ground.chain }, { on := 21, ground := Ground.guard }], guard := some (21, true) }) rfl (fun K hK => ?_) AllReadyH.nil)
  go_simp
  refine (HR.out _ _ (HS.below (HS2.out w4 _ rfl) (Below.refl _ _).drew)).mono ?_; rintro e w5 ⟨rfl, hb5⟩
  go_wp2_with fail
  refine hK.out _ _ ?_ (fun hHeld => ?_)
  · (try dsimp only); (go_split_ands; (repeat' apply And.intro) <;> first | assumption | exact Mine.call (by assumption) (by assumption) | exact Mine.alloc (by assumption) _ | exact Mine.setCells (by assumption) _ _ _ (by omega) | exact Mine.callN (by assumption) (by assumption) (by omega) | exact Row.belowN (by assumption) (by assumption) (by omega) | exact there_belowN (by assumption) (by assumption) (by omega) | exact rangeAt_below (by assumption) (by assumption) | exact World.rangeAt_alloc (by assumption) _ | exact there_below (by assumption) (by assumption) | exact World.there_alloc (by assumption) _ | exact World.there_setCells (by assumption) _ _ _ | exact Row.belowS (by assumption) (by assumption) | exact Row.alloc (by assumption) _ | exact Row.setCells (by assumption) _ _ (by omega) | exact HS.below (by assumption) (by assumption) | exact HS.alloc (by assumption) _)
  clear hK K
  try simp only [Act.put, List.setIfInBounds_toArray, List.set_cons_zero, List.set_cons_succ]
  refine wpAnyH_ready (rs := [28]) (by kernel_rfl) (by simp) (AllReadyH.cons (o := { dst := some 51, op := Op.call { callee := Callee.value (Operand.func 24), args := #[Operand.tmp 49, Operand.tmp 50], argTypes := #[24, 24] }, type := 24, pos := "law.go:14", after := #[{ on := 26, ground := Ground.data }, { on := 27, ground := Ground.data }, { on := 25, ground := Ground.chain }, { on := 21, ground := Ground.guard }], guard := some (21, true) }) rfl (fun K hK => ?_) AllReadyH.nil)
  go_simp
  refine (HN.out _).mono ?_; rintro e w6 ⟨rfl, hb6⟩
  go_wp2_with fail
  refine hK.out _ _ ?_ (fun hHeld => ?_)
  · (try dsimp only); (go_split_ands; (repeat' apply And.intro) <;> first | assumption | exact Mine.call (by assumption) (by assumption) | exact Mine.alloc (by assumption) _ | exact Mine.setCells (by assumption) _ _ _ (by omega) | exact Mine.callN (by assumption) (by assumption) (by omega) | exact Row.belowN (by assumption) (by assumption) (by omega) | exact there_belowN (by assumption) (by assumption) (by omega) | exact rangeAt_below (by assumption) (by assumption) | exact World.rangeAt_alloc (by assumption) _ | exact there_below (by assumption) (by assumption) | exact World.there_alloc (by assumption) _ | exact World.there_setCells (by assumption) _ _ _ | exact Row.belowS (by assumption) (by assumption) | exact Row.alloc (by assumption) _ | exact Row.setCells (by assumption) _ _ (by omega) | exact HS.below (by assumption) (by assumption) | exact HS.alloc (by assumption) _)
  clear hK K
  try simp only [Act.put, List.setIfInBounds_toArray, List.set_cons_zero, List.set_cons_succ]
  refine wpAnyH_take (i := 29) (oi := { dst := some 52, op := Op.binOp BinOp.eql 24 (Operand.tmp 48) (Operand.tmp 51) 24, type := 4, pos := "law.go:14", after := #[{ on := 25, ground := Ground.data }, { on := 28, ground := Ground.data }, { on := 21, ground := Ground.guard }], guard := some (21, true) }) (v := ?v29_18) rfl (by kernel_rfl) (by kernel_rfl) (by kernel_rfl) (fun _ _ _ h => h) (Or.inl ⟨by rfl, ?y29_18⟩) (by assumption) ?r29_18
  case y29_18 => intro w hSw; (try dsimp only at hSw); go_simp; try with_reducible rfl
  try simp only [Act.put, List.setIfInBounds_toArray, List.set_cons_zero, List.set_cons_succ]
  refine wpAnyH_take (i := 30) (oi := { dst := some 53, op := Op.pick (Operand.tmp 44) (Operand.tmp 52) (Operand.const (Value.bool false)), type := 4, pos := "law.go:14", after := #[{ on := 21, ground := Ground.data }, { on := 29, ground := Ground.data }], guard := none }) (v := ?v30_19) rfl (by kernel_rfl) (by kernel_rfl) (by kernel_rfl) (fun _ _ _ h => h) (Or.inl ⟨by rfl, ?y30_19⟩) (by assumption) ?r30_19
  case y30_19 => intro w hSw; (try dsimp only at hSw); go_simp; try with_reducible rfl
  try simp only [Act.put, List.setIfInBounds_toArray, List.set_cons_zero, List.set_cons_succ]
  refine wpAnyH_take (i := 31) (oi := { dst := some 0, op := Op.assign (Operand.tmp 53), type := 4, pos := "law.go:14", after := #[{ on := 30, ground := Ground.data }, { on := 28, ground := Ground.chain }, { on := 0, ground := Ground.phase }, { on := 1, ground := Ground.phase }, { on := 2, ground := Ground.phase }, { on := 3, ground := Ground.phase }, { on := 4, ground := Ground.phase }, { on := 5, ground := Ground.phase }, { on := 6, ground := Ground.phase }, { on := 7, ground := Ground.phase }, { on := 8, ground := Ground.phase }, { on := 9, ground := Ground.phase }, { on := 10, ground := Ground.phase }, { on := 11, ground := Ground.phase }, { on := 12, ground := Ground.phase }, { on := 13, ground := Ground.phase }, { on := 14, ground := Ground.phase }, { on := 15, ground := Ground.phase }, { on := 16, ground := Ground.phase }, { on := 17, ground := Ground.phase }, { on := 18, ground := Ground.phase }, { on := 19, ground := Ground.phase }, { on := 20, ground := Ground.phase }, { on := 21, ground := Ground.phase }, { on := 22, ground := Ground.phase }, { on := 23, ground := Ground.phase }, { on := 24, ground := Ground.phase }, { on := 25, ground := Ground.phase }, { on := 26, ground := Ground.phase }, { on := 27, ground := Ground.phase }, { on := 28, ground := Ground.phase }, { on := 29, ground := Ground.phase }, { on := 30, ground := Ground.phase }], guard := none }) (v := ?v31_20) rfl (by kernel_rfl) (by kernel_rfl) (by kernel_rfl) (fun _ _ _ h => h) (Or.inl ⟨by rfl, ?y31_20⟩) (by assumption) ?r31_20
  case y31_20 => intro w hSw; (try dsimp only at hSw); go_simp; try with_reducible rfl
  try simp only [Act.put, List.setIfInBounds_toArray, List.set_cons_zero, List.set_cons_succ]
  refine wpAnyH_done (by kernel_rfl) ?_ _
  refine NoPanic.normal ?_
  have hfin := Lib.hid hHeld.1.bel
  clear hHeld m4 s0 s1 s2 p0 p1 hu i0 i1 i2 q0 q1 q2
  go_wp2
  go_ret
  exact ⟨rfl, hfin.out⟩
end Go.Proofs.Ytkipnhhdlohnfaa

/- awake of law06, few. -/
import Derived.RangeFuncNested
import Derived.RangeFuncBound
import Derived.RangeFuncCalls
import Derived.RangeFuncLeaves
import Derived.Shelf.Abstract
import Derived.Shelf.RegionOpen
import Derived.WalkKit
import Derived.OwnWalkIn
import Derived.TacticsInMore
import Derived.LoopNIn
import Derived.LoopIn
import Derived.Outline
import Derived.Lib.Hide
import Derived.Lib.SliceRun
import Derived.IntWalk
import Derived.WalkLawsBesides
import Derived.WalkSpells
import Derived.Laws.BitsAllLaws
import Derived.Lib.ConvBytes
import Derived.Maps.AppendAt
import Derived.Lib.AppendStr
import Derived.Lib.SlBytesConst
import Derived.Laws.AppendOwnNone
import Derived.Laws.OwnMore
import Derived.Laws.BytesArg
import Derived.Deep.RegionHeld3
import Derived.BigQuiet
import Derived.Deep.RegionLaw
import Derived.Deep.QuietTactic
import Derived.Lib.OthersKept
import Derived.Test.YtnepmhdnkcnnmaaProg
import Derived.Deep.DeepFit
import Derived.Test.YtnepmhdnkcnnmaaSeG
set_option linter.unusedVariables false
set_option linter.unusedSimpArgs false
namespace Go.Proofs.Ytnepmhdnkcnnmaa
open Go Go.RowKit Go.Shelf

set_option maxRecDepth 100000 in
theorem few06_any (v : Value) (ls : List (List UInt8)) (w : World) (hv : HS w v ls) :
    Calls Try.prog 11 #[v] w fun e w' => e = .returned (.bool (decide (ls.length ≤ 20))) ∧ w' = w := by
  obtain ⟨C, c, rfl, -⟩ := hv.form
  obtain ⟨n, hn⟩ : ∃ n, ls.length = n := ⟨_, rfl⟩
  rw [hn]
  clear hv hn
  by_cases h : n ≤ 20
  · have d1 : decide (n ≤ 20) = true := by simpa using h
    have d2 : decide ((n : Int) ≤ 20) = true := by simp; omega
    rw [d1]
    go_enter Try.func11, Try.ntmps11
    go_wp2
    go_ret
    exact ⟨rfl, rfl⟩
  · have d1 : decide (n ≤ 20) = false := by simp; omega
    have d2 : decide ((n : Int) ≤ 20) = false := by simp; omega
    rw [d1]
    go_enter Try.func11, Try.ntmps11
    go_wp2
    go_ret
    exact ⟨rfl, rfl⟩

def P7 : List UInt8 := 7 :: List.replicate 31 0
set_option maxHeartbeats 2000000 in
set_option maxRecDepth 100000 in
theorem awake06_any (w : World) : Calls Try.prog 10 #[] w fun e w' => e = .returned (.bool true) ∧ Below w.heap.size w w' := by
  have hrl : (rootL []).length = 32 := rootL_length [] (by simp)
  have hp7 : P7.length = 32 := by decide
  have hof1 := fun w => of_any 3 (.slice none 0 0) [] P7 w (HS_nil w) hp7
  have hof2 := fun w => of_any 0 (.slice none 0 0) [] Z32b w (HS_nil w) (by decide)
  have hx : ofC 3 [] P7 = sealC 3 0 (rootL []) P7 := if_pos (by decide)
  have e1 : ofE 3 = 0 := by decide
  have e2 : ofE 0 = 1 := by decide
  have hz : ofC 0 [] Z32b = ZS := if_neg (by decide)
  have hch := fun w => chain_any (.slice none 0 0) [] w (GS_nil w)
  have hcn : (chainN [] : Int) = 0 := rfl
  have hby := fun w => bytes_any 3 0 (rootL []) P7 hrl hp7 w
  have hln : (sealB 3 0 (rootL []) P7).length = 72 := by simp [sealB, bs4, hrl, hp7]
  have hho := fun w => holds_any 3 0 (rootL []) P7 (.slice none 0 0) [] w (HS_nil w) hrl hp7
  have hhb : holdsB 3 0 (rootL []) [] = true := by simp [holdsB]
  rw [hhb] at hho
  rw [hcn] at hch
  rw [hx, e1] at hof1
  rw [hz, e2] at hof2
  have zl : ZS.length = 66 := by decide
  have zi := info66 _ zl
  have zo := all_oneCell_toArray (sealC_one 0 0 (List.replicate 32 0) (List.replicate 32 0))
  obtain ⟨zs, hzs⟩ : ∃ zs, ZS = zs := ⟨_, rfl⟩
  rw [hzs] at hof2 zl zi
  rw [show sealC 0 0 (List.replicate 32 0) (List.replicate 32 0) = zs from hzs] at zo
  have ZL := Lib.hid zl
  have ZI := Lib.hid zi
  have ZO := Lib.hid zo
  clear zl zi zo
  obtain ⟨L, hL⟩ : ∃ L, sealB 3 0 (rootL []) P7 = L := ⟨_, rfl⟩
  rw [hL] at hby hln
  obtain ⟨rt, hrt⟩ : ∃ rt, rootL [] = rt := ⟨_, rfl⟩
  rw [hrt] at hof1 hby hho hrl
  have hl := sealC_len 3 0 rt P7 hrl hp7
  have hsi := info66 _ hl
  have hso := all_oneCell_toArray (sealC_one 3 0 rt P7)
  have hat : ∀ W A, Row W A 27 (sealC 3 0 rt P7) → W.cell? ⟨A, 0, none⟩ = some (.int .i64 3) ∧ W.cell? ⟨A, 34, none⟩ = some (.int .u8 7) := by
    intro W A h
    refine ⟨by rw [h.cell 0]; rfl, ?_⟩
    rw [h.cell 34]
    unfold sealC
    rw [show 34 = 32 + 1 + 1 by omega, List.getElem?_cons_succ, List.getElem?_cons_succ, List.getElem?_append_right (by rw [enc8_len]; omega), enc8_len, hrl]
    rfl
  obtain ⟨sc, hsc⟩ : ∃ sc, sealC 3 0 rt P7 = sc := ⟨_, rfl⟩
  rw [hsc] at hof1 hby hho hl hsi hso
  simp only [hsc] at hat
  have hof1' : ∀ w, Calls Try.prog 12 #[.int .i64 3, .slice none 0 0, .agg #[.int .u8 7, .int .u8 0, .int .u8 0, .int .u8 0, .int .u8 0, .int .u8 0, .int .u8 0, .int .u8 0, .int .u8 0, .int .u8 0, .int .u8 0, .int .u8 0, .int .u8 0, .int .u8 0, .int .u8 0, .int .u8 0, .int .u8 0, .int .u8 0, .int .u8 0, .int .u8 0, .int .u8 0, .int .u8 0, .int .u8 0, .int .u8 0, .int .u8 0, .int .u8 0, .int .u8 0, .int .u8 0, .int .u8 0, .int .u8 0, .int .u8 0, .int .u8 0]] w fun e w' => e = .returned (.tuple #[.agg sc.toArray, .int .i64 0]) ∧ Below w.heap.size w w' := hof1
  have hof2' : ∀ w, Calls Try.prog 12 #[.int .i64 0, .slice none 0 0, .agg #[.int .u8 0, .int .u8 0, .int .u8 0, .int .u8 0, .int .u8 0, .int .u8 0, .int .u8 0, .int .u8 0, .int .u8 0, .int .u8 0, .int .u8 0, .int .u8 0, .int .u8 0, .int .u8 0, .int .u8 0, .int .u8 0, .int .u8 0, .int .u8 0, .int .u8 0, .int .u8 0, .int .u8 0, .int .u8 0, .int .u8 0, .int .u8 0, .int .u8 0, .int .u8 0, .int .u8 0, .int .u8 0, .int .u8 0, .int .u8 0, .int .u8 0, .int .u8 0]] w fun e w' => e = .returned (.tuple #[.agg zs.toArray, .int .i64 1]) ∧ Below w.heap.size w w' := hof2
  have O1 := Lib.hid hof1'
  have O2 := Lib.hid hof2'
  have HCH := Lib.hid hch
  have HBY := Lib.hid hby
  have HHO := Lib.hid hho
  have HSI := Lib.hid hsi
  have HSO := Lib.hid hso
  have HL := Lib.hid hl
  have HLN := Lib.hid hln
  have HAT := Lib.hid hat
  clear hzs hof1 hof2 hof1' hof2' hch hby hho hsi hso hl hln hat hx hz hcn hhb hrl hp7 hsc hL hrt e1 e2
  have kz := zeroSeal
  go_enter Try.func10, Try.ntmps10
  go_wp2_with fail
  refine (O1.out _).mono ?_
  rintro e w1 ⟨rfl, hb1⟩
  obtain ⟨W1, hW1, q1, -, hc1⟩ := filledS w1 #[.int .i64 0, .int .i64 0, .int .u8 0, .int .u8 0, .int .u8 0, .int .u8 0, .int .u8 0, .int .u8 0, .int .u8 0, .int .u8 0, .int .u8 0, .int .u8 0, .int .u8 0, .int .u8 0, .int .u8 0, .int .u8 0, .int .u8 0, .int .u8 0, .int .u8 0, .int .u8 0, .int .u8 0, .int .u8 0, .int .u8 0, .int .u8 0, .int .u8 0, .int .u8 0, .int .u8 0, .int .u8 0, .int .u8 0, .int .u8 0, .int .u8 0, .int .u8 0, .int .u8 0, .int .u8 0, .int .u8 0, .int .u8 0, .int .u8 0, .int .u8 0, .int .u8 0, .int .u8 0, .int .u8 0, .int .u8 0, .int .u8 0, .int .u8 0, .int .u8 0, .int .u8 0, .int .u8 0, .int .u8 0, .int .u8 0, .int .u8 0, .int .u8 0, .int .u8 0, .int .u8 0, .int .u8 0, .int .u8 0, .int .u8 0, .int .u8 0, .int .u8 0, .int .u8 0, .int .u8 0, .int .u8 0, .int .u8 0, .int .u8 0, .int .u8 0, .int .u8 0, .int .u8 0] sc
  have rn1 := Row.new w1 #[.int .i64 0, .int .i64 0, .int .u8 0, .int .u8 0, .int .u8 0, .int .u8 0, .int .u8 0, .int .u8 0, .int .u8 0, .int .u8 0, .int .u8 0, .int .u8 0, .int .u8 0, .int .u8 0, .int .u8 0, .int .u8 0, .int .u8 0, .int .u8 0, .int .u8 0, .int .u8 0, .int .u8 0, .int .u8 0, .int .u8 0, .int .u8 0, .int .u8 0, .int .u8 0, .int .u8 0, .int .u8 0, .int .u8 0, .int .u8 0, .int .u8 0, .int .u8 0, .int .u8 0, .int .u8 0, .int .u8 0, .int .u8 0, .int .u8 0, .int .u8 0, .int .u8 0, .int .u8 0, .int .u8 0, .int .u8 0, .int .u8 0, .int .u8 0, .int .u8 0, .int .u8 0, .int .u8 0, .int .u8 0, .int .u8 0, .int .u8 0, .int .u8 0, .int .u8 0, .int .u8 0, .int .u8 0, .int .u8 0, .int .u8 0, .int .u8 0, .int .u8 0, .int .u8 0, .int .u8 0, .int .u8 0, .int .u8 0, .int .u8 0, .int .u8 0, .int .u8 0, .int .u8 0] 27
  have RN1 := Lib.hid rn1
  have HW1 := Lib.hid hW1
  have Q1 := Lib.hid q1
  have B1 := Lib.hid (below_on hc1 hb1)
  clear hb1 hW1 q1 hc1 rn1
  go_wp2_with (first | (refine RN1.out.store (m := sc) rfl 27 (.tmp 1) (.tmp 8) rfl rfl rfl HSI.out (by rw [HL.out]; rfl) HSO.out ?_) | (rw [HW1.out]; fail_if_success (rw [HW1.out])))
  refine (O2.out _).mono ?_
  rintro e w2 ⟨rfl, hb2⟩
  obtain ⟨W2, hW2, q2, hkeep, hc2⟩ := filledS w2 #[.int .i64 0, .int .i64 0, .int .u8 0, .int .u8 0, .int .u8 0, .int .u8 0, .int .u8 0, .int .u8 0, .int .u8 0, .int .u8 0, .int .u8 0, .int .u8 0, .int .u8 0, .int .u8 0, .int .u8 0, .int .u8 0, .int .u8 0, .int .u8 0, .int .u8 0, .int .u8 0, .int .u8 0, .int .u8 0, .int .u8 0, .int .u8 0, .int .u8 0, .int .u8 0, .int .u8 0, .int .u8 0, .int .u8 0, .int .u8 0, .int .u8 0, .int .u8 0, .int .u8 0, .int .u8 0, .int .u8 0, .int .u8 0, .int .u8 0, .int .u8 0, .int .u8 0, .int .u8 0, .int .u8 0, .int .u8 0, .int .u8 0, .int .u8 0, .int .u8 0, .int .u8 0, .int .u8 0, .int .u8 0, .int .u8 0, .int .u8 0, .int .u8 0, .int .u8 0, .int .u8 0, .int .u8 0, .int .u8 0, .int .u8 0, .int .u8 0, .int .u8 0, .int .u8 0, .int .u8 0, .int .u8 0, .int .u8 0, .int .u8 0, .int .u8 0, .int .u8 0, .int .u8 0] zs
  have rn2 := Row.new w2 #[.int .i64 0, .int .i64 0, .int .u8 0, .int .u8 0, .int .u8 0, .int .u8 0, .int .u8 0, .int .u8 0, .int .u8 0, .int .u8 0, .int .u8 0, .int .u8 0, .int .u8 0, .int .u8 0, .int .u8 0, .int .u8 0, .int .u8 0, .int .u8 0, .int .u8 0, .int .u8 0, .int .u8 0, .int .u8 0, .int .u8 0, .int .u8 0, .int .u8 0, .int .u8 0, .int .u8 0, .int .u8 0, .int .u8 0, .int .u8 0, .int .u8 0, .int .u8 0, .int .u8 0, .int .u8 0, .int .u8 0, .int .u8 0, .int .u8 0, .int .u8 0, .int .u8 0, .int .u8 0, .int .u8 0, .int .u8 0, .int .u8 0, .int .u8 0, .int .u8 0, .int .u8 0, .int .u8 0, .int .u8 0, .int .u8 0, .int .u8 0, .int .u8 0, .int .u8 0, .int .u8 0, .int .u8 0, .int .u8 0, .int .u8 0, .int .u8 0, .int .u8 0, .int .u8 0, .int .u8 0, .int .u8 0, .int .u8 0, .int .u8 0, .int .u8 0, .int .u8 0, .int .u8 0] 27
  have RN2 := Lib.hid rn2
  have HW2 := Lib.hid hW2
  have q1' := hkeep _ _ _ (Q1.out.belowS hb2)
  have hcells := HAT.out _ _ q1'
  have k0 := hcells.1
  have k34 := hcells.2
  have Q2 := Lib.hid q1'
  have B2 := Lib.hid (below_on hc2 (below_on hb2 B1.out))
  clear hb2 hW2 q2 hkeep hc2 rn2 q1' hcells
  go_wp2_with (first | (refine RN2.out.store (m := zs) rfl 27 (.tmp 3) (.tmp 13) rfl rfl rfl ZI.out (by rw [ZL.out]; rfl) ZO.out ?_) | (rw [HW2.out]; fail_if_success (rw [HW2.out])))
  refine (HCH.out _).mono ?_
  rintro e w3 ⟨rfl, hb3⟩
  have Q3 := Lib.hid (Q2.out.belowS hb3)
  have B3 := Lib.hid (below_on hb3 B2.out)
  clear hb3 k0 k34
  go_wp2_with (first | (refine Q3.out.sload rfl (.tmp 1) rfl rfl HSI.out ?_))
  refine (HBY.out _).mono ?_
  rintro e w4 ⟨u, rfl, ho, hb4⟩
  obtain ⟨C, c, rfl, -, -, -⟩ := ho.reads.form
  have Q4 := Lib.hid (Q3.out.belowS hb4)
  have B4 := Lib.hid (below_on hb4 B3.out)
  have hl72 := HLN.out
  clear hb4 ho
  go_wp2_with (first | (refine Q4.out.sload rfl (.tmp 1) rfl rfl HSI.out ?_))
  refine (HHO.out _).mono ?_
  rintro e w5 ⟨rfl, hb5⟩
  have B5 := Lib.hid (below_on hb5 B4.out)
  clear hb5
  go_wp2
  go_ret
  exact ⟨rfl, B5.out⟩
end Go.Proofs.Ytnepmhdnkcnnmaa

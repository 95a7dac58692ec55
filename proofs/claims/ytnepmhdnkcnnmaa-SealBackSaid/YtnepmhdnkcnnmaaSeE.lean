/- seals: loads and stores, Of in one, Holds of both. -/
import Derived.RangeFuncNested
import Derived.RangeFuncBound
import Derived.RangeFuncCalls
import Derived.RangeFuncLeaves
import Derived.Shelf.Abstract
import Derived.Shelf.RegionOpen
import Derived.WalkKit
import Derived.OwnWalkIn
import Derived.TacticsInMore
import Derived.LoopNIn
import Derived.LoopIn
import Derived.Outline
import Derived.Lib.Hide
import Derived.Lib.SliceRun
import Derived.IntWalk
import Derived.WalkLawsBesides
import Derived.WalkSpells
import Derived.Laws.BitsAllLaws
import Derived.Lib.ConvBytes
import Derived.Maps.AppendAt
import Derived.Lib.AppendStr
import Derived.Lib.SlBytesConst
import Derived.Laws.AppendOwnNone
import Derived.Laws.OwnMore
import Derived.Laws.BytesArg
import Derived.Deep.RegionHeld3
import Derived.BigQuiet
import Derived.Deep.RegionLaw
import Derived.Deep.QuietTactic
import Derived.Lib.OthersKept
import Derived.Test.YtnepmhdnkcnnmaaProg
import Derived.Deep.DeepFit
import Derived.Test.YtnepmhdnkcnnmaaSeD
set_option linter.unusedVariables false
set_option linter.unusedSimpArgs false
namespace Go.Proofs.Ytnepmhdnkcnnmaa
open Go Go.RowKit Go.Shelf

/-- a whole seal is read, guarded or not -/
theorem Row.sload {w : World} {ops : Array Oper} {rest : List Oper} {o : Oper} {a : Act} {Q : Exit → Act → World → Prop} {g : Nat} {t : TypeId} {l : List Value} (hr : Row w g t l) (hw : Region.wanted o (yielded ops a.tmps) = true) (x : Operand) (ho : o.op = .load 27 x)
    (hx : a.eval x = .pointer (some ⟨g, 0, none⟩)) (hi : (Try.prog.info? 27).map (·.size) = some l.length)
    (h : wpList Try.prog ops Q rest (a.put o.dst (.agg l.toArray)) w) : wpList Try.prog ops Q (o :: rest) a w :=
  wpList_wanted hw fun K hK => wp_load_mid 27 x ho g 0 hx l _ hr.range Try.underlying27 rfl hi (hK _ _ h)
/-- a sum inside a block is read -/
theorem sum_load {w : World} {ops : Array Oper} {rest : List Oper} {o : Oper} {a : Act} {Q : Exit → Act → World → Prop} {g k : Nat} {l : List Value} (hr : w.rangeAt g k l) (hw : Region.wanted o (yielded ops a.tmps) = true) (x : Operand) (ho : o.op = .load 23 x)
    (hx : a.eval x = .pointer (some ⟨g, k, none⟩)) (hi : (Try.prog.info? 23).map (·.size) = some l.length)
    (h : wpList Try.prog ops Q rest (a.put o.dst (.agg l.toArray)) w) : wpList Try.prog ops Q (o :: rest) a w :=
  wpList_wanted hw fun K hK => wp_load_mid 23 x ho g k hx l _ hr Try.underlying23 rfl hi (hK _ _ h)
theorem filledS (w : World) (z : Array Value) (m : List Value) : ∃ W, (w.alloc (.cells z 27)).setRow w.heap.size m.toArray = W ∧ Row W w.heap.size 27 m ∧ (∀ b t l, Row w b t l → Row W b t l) ∧ Below w.heap.size w W := by
  refine ⟨_, rfl, (Row.new w z 27).setRow m, fun b t l h => ?_, below_setRow ((Below.refl _ w).alloc (Nat.le_refl _) _) (Nat.le_refl _) _⟩
  exact (h.alloc (.cells z 27)).setRow_ne m.toArray (g := w.heap.size) (by have := h.lt; omega)

/-- what Of answers -/
def ofC (seg : Int) (ls : List (List UInt8)) (p : List UInt8) : List Value := if 1 ≤ seg ∧ seg ≤ 999999 then sealC seg ls.length (rootL ls) p else ZS
def ofE (seg : Int) : Int := if 1 ≤ seg ∧ seg ≤ 999999 then 0 else 1
theorem ofC_len (seg : Int) (ls : List (List UInt8)) (p : List UInt8) (hp : p.length = 32) (h : ∀ x ∈ ls, x.length = 32) : (ofC seg ls p).length = 66 := by
  unfold ofC; split
  · exact sealC_len _ _ _ _ (rootL_length ls h) hp
  · decide
theorem ofC_one (seg : Int) (ls : List (List UInt8)) (p : List UInt8) : ∀ v ∈ ofC seg ls p, v.oneCell' = true := by
  unfold ofC; split
  · exact sealC_one _ _ _ _
  · exact sealC_one _ _ _ _
theorem of_any (seg : Int) (u : Value) (ls : List (List UInt8)) (p : List UInt8) (w : World) (hu : HS w u ls) (hp : p.length = 32) :
    Calls Try.prog 12 #[.int .i64 seg, u, .agg (enc8 p).toArray] w fun e w' => e = .returned (.tuple #[.agg (ofC seg ls p).toArray, .int .i64 (ofE seg)]) ∧ Below w.heap.size w w' := by
  unfold ofC ofE
  by_cases h : 1 ≤ seg ∧ seg ≤ 999999
  · rw [if_pos h, if_pos h]; exact of_in seg u ls p w hu hp h.1 h.2
  · rw [if_neg h, if_neg h]; exact of_out seg u p w h
theorem qof_any (seg : Int) (u : Value) (ls : List (List UInt8)) (p : List UInt8) (w : World) (hu : HS w u ls) (hp : p.length = 32) :
    Calls Try.prog 13 #[.int .i64 seg, u, .agg (enc8 p).toArray] w fun e w' => e = .returned (.tuple #[.agg (ofC seg ls p).toArray, .int .i64 (ofE seg)]) ∧ Below w.heap.size w w' := by
  unfold ofC ofE
  by_cases h : 1 ≤ seg ∧ seg ≤ 999999
  · rw [if_pos h, if_pos h]; exact qof_in seg u ls p w hu hp h.1 h.2
  · rw [if_neg h, if_neg h]; exact qof_out seg u p w h
/-- whether a seal is of leaves -/
def holdsB (s c : Int) (r : List UInt8) (ls : List (List UInt8)) : Bool := decide (1 ≤ s ∧ s ≤ 999999) && ((ls.length : Int) == c && rootL ls == r)

/-- a seal's own cell -/
theorem seal_box (w : World) (s c : Int) (r p : List UInt8) (hr : r.length = 32) (hp : p.length = 32) : ∃ sc, sealC s c r p = sc ∧ sc.length = 66 ∧ (Try.prog.info? 27).map (·.size) = some sc.length ∧ (∀ v ∈ sc, v.oneCell' = true) ∧
    Row (w.alloc (.cells sc.toArray 27)) w.heap.size 27 sc ∧ Mine w.heap.size w (w.alloc (.cells sc.toArray 27)) ∧
    (∀ W, Row W w.heap.size 27 sc → W.cell? ⟨w.heap.size, 0, none⟩ = some (.int .i64 s) ∧ W.cell? ⟨w.heap.size, 1, none⟩ = some (.int .i64 c) ∧ W.rangeAt w.heap.size 2 (enc8 r) ∧ W.rangeAt w.heap.size 34 (enc8 p)) := by
  have hl := sealC_len s c r p hr hp
  refine ⟨_, rfl, hl, info66 _ hl, sealC_one s c r p, Row.new w _ _, Mine.alloc ⟨Nat.le_refl _, Below.refl _ _⟩ _, fun W h => ⟨?_, ?_, ?_, ?_⟩⟩
  · rw [h.cell 0]; rfl
  · rw [h.cell 1]; rfl
  · intro j v hj
    have hlt : j < (enc8 r).length := (List.getElem?_eq_some_iff.1 hj).1
    rw [h.cell (2 + j)]
    unfold sealC
    rw [show 2 + j = j + 1 + 1 by omega, List.getElem?_cons_succ, List.getElem?_cons_succ, List.getElem?_append_left hlt, hj]
  · intro j v hj
    rw [h.cell (34 + j)]
    unfold sealC
    rw [show 34 + j = (32 + j) + 1 + 1 by omega, List.getElem?_cons_succ, List.getElem?_cons_succ, List.getElem?_append_right (by rw [enc8_len]; omega), enc8_len, hr, show 32 + j - 32 = j by omega, hj]

set_option maxHeartbeats 2000000 in
set_option maxRecDepth 100000 in
/-- **seal.Holds** -/
theorem holds_any (s c : Int) (r p : List UInt8) (u : Value) (ls : List (List UInt8)) (w : World) (hu : HS w u ls) (hr : r.length = 32) (hp : p.length = 32) :
    Calls Try.prog 20 #[.agg (sealC s c r p).toArray, u] w fun e w' => e = .returned (.bool (holdsB s c r ls)) ∧ Below w.heap.size w w' := by
  obtain ⟨sc, hsc, hl66, hsi, hso, r0, m0, hat⟩ := seal_box w s c r p hr hp
  rw [hsc]
  obtain ⟨A, hA⟩ : ∃ A, w.heap.size = A := ⟨_, rfl⟩
  rw [hA] at r0 m0 hat
  obtain ⟨c0, -, -, hp34⟩ := hat _ r0
  have hof := of_any s u ls p _ (hu.below (by rw [hA]; exact m0.bel)) hp
  have hol := ofC_len s ls p hp hu.all
  have hoo := all_oneCell_toArray (ofC_one s ls p)
  have hoi := info66 _ hol
  have hhb : (1 ≤ s ∧ s ≤ 999999 → ∀ w, (binOp .eql 27 (.agg (ofC s ls p).toArray) (.agg sc.toArray)).run Try.prog w = .ok (.bool (holdsB s c r ls)) w) := by
    intro h w
    rw [← hsc]
    unfold ofC holdsB
    rw [if_pos h, run_eql_seal s ls.length s c (rootL ls) p r p (rootL_length ls hu.all) hp hr hp w]
    simp [h]
  have hhn : ¬ (1 ≤ s ∧ s ≤ 999999) → holdsB s c r ls = false := fun h => by unfold holdsB; simp [h]
  obtain ⟨hb, hhbe⟩ : ∃ hb, holdsB s c r ls = hb := ⟨_, rfl⟩
  rw [hhbe] at hhb hhn ⊢
  obtain ⟨oc, hoc⟩ : ∃ oc, ofC s ls p = oc := ⟨_, rfl⟩
  rw [hoc] at hof hol hoo hoi hhb
  have hip := info32 p hp
  obtain ⟨ap, hap⟩ : ∃ ap, enc8 p = ap := ⟨_, rfl⟩
  rw [hap] at hof hip hp34
  obtain ⟨C, cc, rfl, -⟩ := hu.form
  obtain ⟨n, hn⟩ : ∃ n, ls.length = n := ⟨_, rfl⟩
  rw [hn] at hof ⊢
  have HOF := Lib.hid hof
  have R0 := Lib.hid r0
  have M0 := Lib.hid m0
  have HSI := Lib.hid hsi
  have HP := Lib.hid hp34
  have HIP := Lib.hid hip
  have HOL := Lib.hid hol
  have HOO := Lib.hid hoo
  have HOI := Lib.hid hoi
  have HHB := Lib.hid hhb
  have HHN := Lib.hid hhn
  clear hu hof r0 m0 hat hsi hso hp34 hip hol hoo hoi hhb hhn hhbe hoc hap hn hsc hl66 hr hp
  have kz := zeroSeal
  go_enter Try.func20, Try.ntmps20
  go_wp2_with (first
    | (refine sum_load HP.out rfl (.tmp 11) rfl rfl HIP.out ?_))
  refine HOF.out.mono ?_
  rintro e w1 ⟨rfl, hb1⟩
  obtain ⟨W, hW, rw1, hkeep, hbw⟩ := filledS w1 #[.int .i64 0, .int .i64 0, .int .u8 0, .int .u8 0, .int .u8 0, .int .u8 0, .int .u8 0, .int .u8 0, .int .u8 0, .int .u8 0, .int .u8 0, .int .u8 0, .int .u8 0, .int .u8 0, .int .u8 0, .int .u8 0, .int .u8 0, .int .u8 0, .int .u8 0, .int .u8 0, .int .u8 0, .int .u8 0, .int .u8 0, .int .u8 0, .int .u8 0, .int .u8 0, .int .u8 0, .int .u8 0, .int .u8 0, .int .u8 0, .int .u8 0, .int .u8 0, .int .u8 0, .int .u8 0, .int .u8 0, .int .u8 0, .int .u8 0, .int .u8 0, .int .u8 0, .int .u8 0, .int .u8 0, .int .u8 0, .int .u8 0, .int .u8 0, .int .u8 0, .int .u8 0, .int .u8 0, .int .u8 0, .int .u8 0, .int .u8 0, .int .u8 0, .int .u8 0, .int .u8 0, .int .u8 0, .int .u8 0, .int .u8 0, .int .u8 0, .int .u8 0, .int .u8 0, .int .u8 0, .int .u8 0, .int .u8 0, .int .u8 0, .int .u8 0, .int .u8 0, .int .u8 0] oc
  have rn := Row.new w1 #[.int .i64 0, .int .i64 0, .int .u8 0, .int .u8 0, .int .u8 0, .int .u8 0, .int .u8 0, .int .u8 0, .int .u8 0, .int .u8 0, .int .u8 0, .int .u8 0, .int .u8 0, .int .u8 0, .int .u8 0, .int .u8 0, .int .u8 0, .int .u8 0, .int .u8 0, .int .u8 0, .int .u8 0, .int .u8 0, .int .u8 0, .int .u8 0, .int .u8 0, .int .u8 0, .int .u8 0, .int .u8 0, .int .u8 0, .int .u8 0, .int .u8 0, .int .u8 0, .int .u8 0, .int .u8 0, .int .u8 0, .int .u8 0, .int .u8 0, .int .u8 0, .int .u8 0, .int .u8 0, .int .u8 0, .int .u8 0, .int .u8 0, .int .u8 0, .int .u8 0, .int .u8 0, .int .u8 0, .int .u8 0, .int .u8 0, .int .u8 0, .int .u8 0, .int .u8 0, .int .u8 0, .int .u8 0, .int .u8 0, .int .u8 0, .int .u8 0, .int .u8 0, .int .u8 0, .int .u8 0, .int .u8 0, .int .u8 0, .int .u8 0, .int .u8 0, .int .u8 0, .int .u8 0] 27
  have r0' := hkeep _ _ _ (R0.out.belowS hb1)
  have HW := Lib.hid hW
  have RW := Lib.hid rw1
  have RN := Lib.hid rn
  have RS := Lib.hid r0'
  have HB := Lib.hid ((M0.out.call hb1).call hbw).bel
  clear hb1 hW rw1 hkeep hbw rn r0'
  by_cases h : 1 ≤ s ∧ s ≤ 999999
  · have heq := HHB.out h
    have e0 : ofE s = 0 := if_pos h
    rw [e0]
    go_wp2_with (first
      | (refine RN.out.store (m := oc) rfl 27 (.tmp 5) (.tmp 14) rfl rfl rfl HOI.out (by rw [HOL.out]; rfl) HOO.out ?_)
      | (rw [HW.out]; refine RW.out.sload rfl (.tmp 5) rfl rfl HOI.out ?_)
      | (refine RS.out.sload rfl (.tmp 2) rfl rfl HSI.out ?_))
    go_ret
    exact ⟨rfl, by rw [hA]; exact HB.out⟩
  · have e0 : ofE s = 1 := if_neg h
    obtain rfl := HHN.out h
    rw [e0]
    go_wp2_with (first
      | (refine RN.out.store (m := oc) rfl 27 (.tmp 5) (.tmp 14) rfl rfl rfl HOI.out (by rw [HOL.out]; rfl) HOO.out ?_))
    go_ret
    exact ⟨rfl, by rw [hA]; first | exact HB.out | (rw [HW.out]; exact HB.out)⟩
set_option maxHeartbeats 2000000 in
set_option maxRecDepth 100000 in
/-- **the reference's Holds** -/
theorem qholds_any (s c : Int) (r p : List UInt8) (u : Value) (ls : List (List UInt8)) (w : World) (hu : HS w u ls) (hr : r.length = 32) (hp : p.length = 32) :
    Calls Try.prog 21 #[.agg (sealC s c r p).toArray, u] w fun e w' => e = .returned (.bool (holdsB s c r ls)) ∧ Below w.heap.size w w' := by
  obtain ⟨sc, hsc, hl66, hsi, hso, r0, m0, hat⟩ := seal_box w s c r p hr hp
  rw [hsc]
  obtain ⟨A, hA⟩ : ∃ A, w.heap.size = A := ⟨_, rfl⟩
  rw [hA] at r0 m0 hat
  obtain ⟨c0, -, -, hp34⟩ := hat _ r0
  have hof := qof_any s u ls p _ (hu.below (by rw [hA]; exact m0.bel)) hp
  have hol := ofC_len s ls p hp hu.all
  have hoo := all_oneCell_toArray (ofC_one s ls p)
  have hoi := info66 _ hol
  have hhb : (1 ≤ s ∧ s ≤ 999999 → ∀ w, (binOp .eql 27 (.agg (ofC s ls p).toArray) (.agg sc.toArray)).run Try.prog w = .ok (.bool (holdsB s c r ls)) w) := by
    intro h w
    rw [← hsc]
    unfold ofC holdsB
    rw [if_pos h, run_eql_seal s ls.length s c (rootL ls) p r p (rootL_length ls hu.all) hp hr hp w]
    simp [h]
  have hhn : ¬ (1 ≤ s ∧ s ≤ 999999) → holdsB s c r ls = false := fun h => by unfold holdsB; simp [h]
  obtain ⟨hb, hhbe⟩ : ∃ hb, holdsB s c r ls = hb := ⟨_, rfl⟩
  rw [hhbe] at hhb hhn ⊢
  obtain ⟨oc, hoc⟩ : ∃ oc, ofC s ls p = oc := ⟨_, rfl⟩
  rw [hoc] at hof hol hoo hoi hhb
  have hip := info32 p hp
  obtain ⟨ap, hap⟩ : ∃ ap, enc8 p = ap := ⟨_, rfl⟩
  rw [hap] at hof hip hp34
  obtain ⟨C, cc, rfl, -⟩ := hu.form
  obtain ⟨n, hn⟩ : ∃ n, ls.length = n := ⟨_, rfl⟩
  rw [hn] at hof ⊢
  have HOF := Lib.hid hof
  have R0 := Lib.hid r0
  have M0 := Lib.hid m0
  have HSI := Lib.hid hsi
  have HP := Lib.hid hp34
  have HIP := Lib.hid hip
  have HOL := Lib.hid hol
  have HOO := Lib.hid hoo
  have HOI := Lib.hid hoi
  have HHB := Lib.hid hhb
  have HHN := Lib.hid hhn
  clear hu hof r0 m0 hat hsi hso hp34 hip hol hoo hoi hhb hhn hhbe hoc hap hn hsc hl66 hr hp
  have kz := zeroSeal
  go_enter Try.func21, Try.ntmps21
  go_wp2_with (first
    | (refine sum_load HP.out rfl (.tmp 11) rfl rfl HIP.out ?_))
  refine HOF.out.mono ?_
  rintro e w1 ⟨rfl, hb1⟩
  obtain ⟨W, hW, rw1, hkeep, hbw⟩ := filledS w1 #[.int .i64 0, .int .i64 0, .int .u8 0, .int .u8 0, .int .u8 0, .int .u8 0, .int .u8 0, .int .u8 0, .int .u8 0, .int .u8 0, .int .u8 0, .int .u8 0, .int .u8 0, .int .u8 0, .int .u8 0, .int .u8 0, .int .u8 0, .int .u8 0, .int .u8 0, .int .u8 0, .int .u8 0, .int .u8 0, .int .u8 0, .int .u8 0, .int .u8 0, .int .u8 0, .int .u8 0, .int .u8 0, .int .u8 0, .int .u8 0, .int .u8 0, .int .u8 0, .int .u8 0, .int .u8 0, .int .u8 0, .int .u8 0, .int .u8 0, .int .u8 0, .int .u8 0, .int .u8 0, .int .u8 0, .int .u8 0, .int .u8 0, .int .u8 0, .int .u8 0, .int .u8 0, .int .u8 0, .int .u8 0, .int .u8 0, .int .u8 0, .int .u8 0, .int .u8 0, .int .u8 0, .int .u8 0, .int .u8 0, .int .u8 0, .int .u8 0, .int .u8 0, .int .u8 0, .int .u8 0, .int .u8 0, .int .u8 0, .int .u8 0, .int .u8 0, .int .u8 0, .int .u8 0] oc
  have rn := Row.new w1 #[.int .i64 0, .int .i64 0, .int .u8 0, .int .u8 0, .int .u8 0, .int .u8 0, .int .u8 0, .int .u8 0, .int .u8 0, .int .u8 0, .int .u8 0, .int .u8 0, .int .u8 0, .int .u8 0, .int .u8 0, .int .u8 0, .int .u8 0, .int .u8 0, .int .u8 0, .int .u8 0, .int .u8 0, .int .u8 0, .int .u8 0, .int .u8 0, .int .u8 0, .int .u8 0, .int .u8 0, .int .u8 0, .int .u8 0, .int .u8 0, .int .u8 0, .int .u8 0, .int .u8 0, .int .u8 0, .int .u8 0, .int .u8 0, .int .u8 0, .int .u8 0, .int .u8 0, .int .u8 0, .int .u8 0, .int .u8 0, .int .u8 0, .int .u8 0, .int .u8 0, .int .u8 0, .int .u8 0, .int .u8 0, .int .u8 0, .int .u8 0, .int .u8 0, .int .u8 0, .int .u8 0, .int .u8 0, .int .u8 0, .int .u8 0, .int .u8 0, .int .u8 0, .int .u8 0, .int .u8 0, .int .u8 0, .int .u8 0, .int .u8 0, .int .u8 0, .int .u8 0, .int .u8 0] 27
  have r0' := hkeep _ _ _ (R0.out.belowS hb1)
  have HW := Lib.hid hW
  have RW := Lib.hid rw1
  have RN := Lib.hid rn
  have RS := Lib.hid r0'
  have HB := Lib.hid ((M0.out.call hb1).call hbw).bel
  clear hb1 hW rw1 hkeep hbw rn r0'
  by_cases h : 1 ≤ s ∧ s ≤ 999999
  · have heq := HHB.out h
    have e0 : ofE s = 0 := if_pos h
    rw [e0]
    go_wp2_with (first
      | (refine RN.out.store (m := oc) rfl 27 (.tmp 5) (.tmp 14) rfl rfl rfl HOI.out (by rw [HOL.out]; rfl) HOO.out ?_)
      | (rw [HW.out]; refine RW.out.sload rfl (.tmp 5) rfl rfl HOI.out ?_)
      | (refine RS.out.sload rfl (.tmp 2) rfl rfl HSI.out ?_))
    go_ret
    exact ⟨rfl, by rw [hA]; exact HB.out⟩
  · have e0 : ofE s = 1 := if_neg h
    obtain rfl := HHN.out h
    rw [e0]
    go_wp2_with (first
      | (refine RN.out.store (m := oc) rfl 27 (.tmp 5) (.tmp 14) rfl rfl rfl HOI.out (by rw [HOL.out]; rfl) HOO.out ?_))
    go_ret
    exact ⟨rfl, by rw [hA]; first | exact HB.out | (rw [HW.out]; exact HB.out)⟩
end Go.Proofs.Ytnepmhdnkcnnmaa

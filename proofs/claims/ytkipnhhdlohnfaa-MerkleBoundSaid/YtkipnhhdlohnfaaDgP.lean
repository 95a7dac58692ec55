/- DigestTexts and DigestBack. -/
import Derived.RangeFuncNested
import Derived.RangeFuncBound
import Derived.RangeFuncCalls
import Derived.RangeFuncLeaves
import Derived.Shelf.Abstract
import Derived.Shelf.RegionOpen
import Derived.WalkKit
import Derived.OwnWalkIn
import Derived.TacticsInMore
import Derived.LoopNIn
import Derived.LoopIn
import Derived.Outline
import Derived.Lib.Hide
import Derived.Lib.SliceRun
import Derived.IntWalk
import Derived.WalkLawsBesides
import Derived.WalkSpells
import Derived.Laws.BitsAllLaws
import Derived.Lib.ConvBytes
import Derived.Maps.AppendAt
import Derived.Lib.AppendStr
import Derived.Lib.SlBytesConst
import Derived.Laws.AppendOwnNone
import Derived.Laws.OwnMore
import Derived.Laws.BytesArg
import Derived.Deep.RegionHeld3
import Derived.BigQuiet
import Derived.Deep.RegionLaw
import Derived.Deep.QuietTactic
import Derived.Lib.OthersKept
import Derived.Test.YtkipnhhdlohnfaaProg
import Derived.Deep.DeepFit
import Derived.Test.YtkipnhhdlohnfaaDgO
import Derived.Test.YtkipnhhdlohnfaaDgK
set_option linter.unusedVariables false
set_option linter.unusedSimpArgs false
namespace Go.Proofs.Ytkipnhhdlohnfaa
open Go Go.RowKit Go.Shelf

/-- a whole array, as the walk meets its load -/
theorem Row.ld {w : World} {g : Nat} {t : TypeId} {l : List Value} (hr : Row w g t l) (ty : TypeId) (n : Nat) (e : TypeId) (hu : Try.prog.underlying ty = some (.array n e)) (hi : (Try.prog.info? ty).map (·.size) = some l.length) :
    (Instr.loadAt ty (.pointer (some ⟨g, 0, none⟩))).run Try.prog w = .ok (.agg l.toArray) w := by
  refine run_loadAt_mid w g 0 ty l _ (fun j v hj => ?_) hu rfl hi
  rw [Nat.zero_add, hr.cell j]; exact hj
/-- .. and where an operation stands under a guard -/
theorem wpList_wanted {w : World} {ops : Array Oper} {rest : List Oper} {o : Oper} {a : Act} {Q : Exit → Act → World → Prop} (hw : Region.wanted o (yielded ops a.tmps) = true)
    (h : ∀ K : Act → World → Prop, (∀ a w, wpList Try.prog ops Q rest a w → K a w) → o.wp Try.prog a w K Q) : wpList Try.prog ops Q (o :: rest) a w :=
  wpList_step fun K hK => by rw [hw, if_pos rfl]; exact h K hK
theorem Row.loadg {w : World} {ops : Array Oper} {rest : List Oper} {o : Oper} {a : Act} {Q : Exit → Act → World → Prop} {g : Nat} {t : TypeId} {l : List Value} (hr : Row w g t l) (hw : Region.wanted o (yielded ops a.tmps) = true) (ty : TypeId) (x : Operand) (ho : o.op = .load ty x)
    (hx : a.eval x = .pointer (some ⟨g, 0, none⟩)) (n : Nat) (e : TypeId) (hu : Try.prog.underlying ty = some (.array n e)) (hi : (Try.prog.info? ty).map (·.size) = some l.length)
    (h : wpList Try.prog ops Q rest (a.put o.dst (.agg l.toArray)) w) : wpList Try.prog ops Q (o :: rest) a w :=
  wpList_wanted hw fun K hK => wp_load_mid ty x ho g 0 hx l _ (fun j v hj => by rw [Nat.zero_add, hr.cell j]; exact hj) hu rfl hi (hK _ _ h)
theorem Row.new_set (w : World) (l : List Value) (t : TypeId) (m : List Value) : Row ((w.alloc (.cells l.toArray t)).setRow w.heap.size m.toArray) w.heap.size t m := (Row.new w l.toArray t).setRow m

set_option maxHeartbeats 1000000 in
set_option maxRecDepth 100000 in
theorem digestBack_walk (v : Value) (h : List UInt8) (w : World) (hv : v = .agg (enc8 h).toArray ∧ h.length = 32) :
    Calls Try.prog 8 #[v] w fun e w' => e = .returned (.bool true) ∧ Below w.heap.size w w' := by
  obtain ⟨rfl, hl⟩ := hv
  have hso := show_ok h hl
  have Hso := Lib.hid hso
  have Hl := Lib.hid hl
  clear hso hl
  have hs := fun w => show_any h Hl.out w
  have hp := fun w => parse_any ⟨(showL h).toArray⟩ (showL h) rfl w
  simp only [Hso.out.1, Hso.out.2] at hp
  have heq := fun w => run_eql_sum h h Hl.out Hl.out w
  simp only [beq_self_eq_true] at heq
  obtain ⟨S, hS⟩ : ∃ S : ByteArray, (⟨(showL h).toArray⟩ : ByteArray) = S := ⟨_, rfl⟩
  rw [hS] at hp
  simp only [hS] at hs
  obtain ⟨arr, harr⟩ : ∃ arr, enc8 h = arr := ⟨_, rfl⟩
  rw [harr] at hp hs heq ⊢
  have hal : arr.length = 32 := by rw [← harr, enc8_len, Hl.out]
  have ha1 : arr.toArray.all (·.oneCell') = true := by rw [← harr]; exact enc8_all _
  have Hal := Lib.hid hal
  have Ha1 := Lib.hid ha1
  have Hs := Lib.hid hs
  have Hp := Lib.hid hp
  have R0 := Lib.hid (Row.new w arr.toArray 24)
  have HBa := Lib.hid ((Below.refl _ w).alloc (Nat.le_refl _) (.cells arr.toArray 24))
  clear hS hs hp Hso harr hal ha1
  go_enter Try.func8, Try.ntmps8
  go_wp2_with fail
  obtain ⟨wa, hwa⟩ : ∃ wa, w.alloc (.cells arr.toArray 24) = wa := ⟨_, rfl⟩
  rw [hwa] at R0 HBa ⊢
  have Hwa := Lib.hid hwa
  clear hwa
  refine (awake04_any _).mono ?_
  rintro e w1 ⟨rfl, hb1⟩
  have HB1 := Lib.hid (HBa.out.trans (hb1.mono HBa.out.size))
  have R1 := Lib.hid (R0.out.below' hb1 (Nat.le_refl _))
  clear hb1 R0 HBa
  go_wp2_with (refine R1.out.load rfl 24 (.tmp 1) rfl rfl _ _ Try.underlying24 (by rw [Hal.out]; kernel_rfl) ?_)
  refine (Hs.out w1).mono ?_
  rintro e w2 ⟨rfl, hb2⟩
  have HB2 := Lib.hid (HB1.out.trans (hb2.mono HB1.out.size))
  have R2 := Lib.hid (R1.out.below' hb2 (Nat.le_refl _))
  clear hb2 HB1 R1
  go_wp2_with fail
  refine (Hp.out w2).mono ?_
  rintro e w3 ⟨rfl, hb3⟩
  have HB3 := Lib.hid (HB2.out.trans (hb3.mono HB2.out.size))
  have R3 := Lib.hid (R2.out.below' hb3 (Nat.le_refl _))
  have r4 := (Row.new w3 #[.int .u8 0, .int .u8 0, .int .u8 0, .int .u8 0, .int .u8 0, .int .u8 0, .int .u8 0, .int .u8 0, .int .u8 0, .int .u8 0, .int .u8 0, .int .u8 0, .int .u8 0, .int .u8 0, .int .u8 0, .int .u8 0, .int .u8 0, .int .u8 0, .int .u8 0, .int .u8 0, .int .u8 0, .int .u8 0, .int .u8 0, .int .u8 0, .int .u8 0, .int .u8 0, .int .u8 0, .int .u8 0, .int .u8 0, .int .u8 0, .int .u8 0, .int .u8 0] 24).setRow arr
  have r3 := (R3.out.alloc (.cells #[.int .u8 0, .int .u8 0, .int .u8 0, .int .u8 0, .int .u8 0, .int .u8 0, .int .u8 0, .int .u8 0, .int .u8 0, .int .u8 0, .int .u8 0, .int .u8 0, .int .u8 0, .int .u8 0, .int .u8 0, .int .u8 0, .int .u8 0, .int .u8 0, .int .u8 0, .int .u8 0, .int .u8 0, .int .u8 0, .int .u8 0, .int .u8 0, .int .u8 0, .int .u8 0, .int .u8 0, .int .u8 0, .int .u8 0, .int .u8 0, .int .u8 0, .int .u8 0] 24)).setRow_ne arr.toArray (g := w3.heap.size) (by have := R3.out.lt; omega)
  have HB4 := Lib.hid (below_setRow (HB3.out.alloc HB3.out.size (.cells #[.int .u8 0, .int .u8 0, .int .u8 0, .int .u8 0, .int .u8 0, .int .u8 0, .int .u8 0, .int .u8 0, .int .u8 0, .int .u8 0, .int .u8 0, .int .u8 0, .int .u8 0, .int .u8 0, .int .u8 0, .int .u8 0, .int .u8 0, .int .u8 0, .int .u8 0, .int .u8 0, .int .u8 0, .int .u8 0, .int .u8 0, .int .u8 0, .int .u8 0, .int .u8 0, .int .u8 0, .int .u8 0, .int .u8 0, .int .u8 0, .int .u8 0, .int .u8 0] 24)) (g := w3.heap.size) HB3.out.size arr.toArray)
  have RN := Lib.hid (Row.new w3 #[.int .u8 0, .int .u8 0, .int .u8 0, .int .u8 0, .int .u8 0, .int .u8 0, .int .u8 0, .int .u8 0, .int .u8 0, .int .u8 0, .int .u8 0, .int .u8 0, .int .u8 0, .int .u8 0, .int .u8 0, .int .u8 0, .int .u8 0, .int .u8 0, .int .u8 0, .int .u8 0, .int .u8 0, .int .u8 0, .int .u8 0, .int .u8 0, .int .u8 0, .int .u8 0, .int .u8 0, .int .u8 0, .int .u8 0, .int .u8 0, .int .u8 0, .int .u8 0] 24)
  have R4 := Lib.hid r4
  have R3' := Lib.hid r3
  clear hb3 HB2 R2 r3 r4
  go_wp2_with (first | (refine RN.out.store (m := arr) rfl 24 (.tmp 3) (.tmp 11) rfl rfl rfl (by rw [Hal.out]; kernel_rfl) (by rw [Hal.out]; rfl) Ha1.out ?_) | (refine R4.out.loadg rfl 24 (.tmp 3) rfl rfl _ _ Try.underlying24 (by rw [Hal.out]; kernel_rfl) ?_) | (refine R3'.out.loadg rfl 24 (.tmp 1) rfl rfl _ _ Try.underlying24 (by rw [Hal.out]; kernel_rfl) ?_))
  go_ret
  exact ⟨rfl, HB4.out⟩

/-- an array's variable, filled -/
theorem filled (w : World) (m : List Value) : ∃ W, (w.alloc (.cells #[.int .u8 0, .int .u8 0, .int .u8 0, .int .u8 0, .int .u8 0, .int .u8 0, .int .u8 0, .int .u8 0, .int .u8 0, .int .u8 0, .int .u8 0, .int .u8 0, .int .u8 0, .int .u8 0, .int .u8 0, .int .u8 0, .int .u8 0, .int .u8 0, .int .u8 0, .int .u8 0, .int .u8 0, .int .u8 0, .int .u8 0, .int .u8 0, .int .u8 0, .int .u8 0, .int .u8 0, .int .u8 0, .int .u8 0, .int .u8 0, .int .u8 0, .int .u8 0] 24)).setRow w.heap.size m.toArray = W ∧ Row W w.heap.size 24 m ∧ (∀ b t l, Row w b t l → Row W b t l) ∧ Below w.heap.size w W := by
  refine ⟨_, rfl, (Row.new w #[.int .u8 0, .int .u8 0, .int .u8 0, .int .u8 0, .int .u8 0, .int .u8 0, .int .u8 0, .int .u8 0, .int .u8 0, .int .u8 0, .int .u8 0, .int .u8 0, .int .u8 0, .int .u8 0, .int .u8 0, .int .u8 0, .int .u8 0, .int .u8 0, .int .u8 0, .int .u8 0, .int .u8 0, .int .u8 0, .int .u8 0, .int .u8 0, .int .u8 0, .int .u8 0, .int .u8 0, .int .u8 0, .int .u8 0, .int .u8 0, .int .u8 0, .int .u8 0] 24).setRow m, fun b t l h => ?_, below_setRow ((Below.refl _ w).alloc (Nat.le_refl _) _) (Nat.le_refl _) _⟩
  exact (h.alloc (.cells #[.int .u8 0, .int .u8 0, .int .u8 0, .int .u8 0, .int .u8 0, .int .u8 0, .int .u8 0, .int .u8 0, .int .u8 0, .int .u8 0, .int .u8 0, .int .u8 0, .int .u8 0, .int .u8 0, .int .u8 0, .int .u8 0, .int .u8 0, .int .u8 0, .int .u8 0, .int .u8 0, .int .u8 0, .int .u8 0, .int .u8 0, .int .u8 0, .int .u8 0, .int .u8 0, .int .u8 0, .int .u8 0, .int .u8 0, .int .u8 0, .int .u8 0, .int .u8 0] 24)).setRow_ne m.toArray (g := w.heap.size) (by have := h.lt; omega)
theorem Row.range {w : World} {b : Nat} {t : TypeId} {l : List Value} (h : Row w b t l) : w.rangeAt b 0 l := fun j v hj => by rw [Nat.zero_add, h.cell j]; exact hj
theorem rangeAt_below {w w' : World} {b o : Nat} {cs : List Value} (h : w.rangeAt b o cs) (hb : Below w.heap.size w w') : w'.rangeAt b o cs := fun j v hj =>
  (hb.cell (World.block_lt_of_cell? w _ (h j v hj))).trans (h j v hj)
theorem below_step {n : Nat} {a w w' : World} (h : Below n a w) (hn : n ≤ w.heap.size) (hb : Below w.heap.size w w') : Below n a w' := h.trans (hb.mono hn)
theorem below_on {a w w' : World} (hb : Below w.heap.size w w') (h : Below a.heap.size a w) : Below a.heap.size a w' := h.trans (hb.mono h.size)

set_option maxHeartbeats 2000000 in
set_option maxRecDepth 100000 in
theorem texts_few (h : List UInt8) (S : ByteArray) (w : World) (hl : h.length = 32) (hs : S.size ≤ 200) :
    Calls Try.prog 7 #[.agg (enc8 h).toArray, .string S] w fun e w' => e = .returned (.bool true) ∧ Below w.heap.size w w' := by
  have d1 : decide (200 < S.size) = false := by simp; omega
  have d2 : decide ((200 : Int) < (S.size : Int)) = false := by simp; omega
  have Hl := Lib.hid hl
  clear hl hs
  have hs := fun w => show_any h Hl.out w
  have hrs := fun w => rshow_any h Hl.out w
  have hp := fun w => parse_any S S.data.toList rfl w
  have hrp := fun w => rparse_any S S.data.toList rfl w
  have heq := fun w => run_eql_sum (parseV S.data.toList) (parseV S.data.toList) (parseV_length _) (parseV_length _) w
  simp only [beq_self_eq_true] at heq
  obtain ⟨T, hT⟩ : ∃ S : ByteArray, (⟨(showL h).toArray⟩ : ByteArray) = S := ⟨_, rfl⟩
  simp only [hT] at hs hrs
  have hpl : (enc8 (parseV S.data.toList)).length = 32 := by rw [enc8_len, parseV_length]
  have hp1 : (enc8 (parseV S.data.toList)).toArray.all (·.oneCell') = true := enc8_all _
  have hal : (enc8 h).length = 32 := by rw [enc8_len, Hl.out]
  obtain ⟨p, hp'⟩ : ∃ p, enc8 (parseV S.data.toList) = p := ⟨_, rfl⟩
  obtain ⟨ok, hok⟩ : ∃ ok, okL S.data.toList = ok := ⟨_, rfl⟩
  obtain ⟨arr, harr⟩ : ∃ arr, enc8 h = arr := ⟨_, rfl⟩
  simp only [hp', hok] at hp hrp
  rw [hp'] at heq hpl hp1
  simp only [harr] at hs hrs
  rw [harr] at hal ⊢
  have hu := Try.underlying24
  have ia : (Try.prog.info? 24).map (·.size) = some arr.length := by rw [hal]; kernel_rfl
  have ip : (Try.prog.info? 24).map (·.size) = some p.length := by rw [hpl]; kernel_rfl
  have Hs := Lib.hid hs
  have Hp := Lib.hid hp
  have Hrs := Lib.hid hrs
  have Hrp := Lib.hid hrp
  have Hpl := Lib.hid hpl
  have Hp1 := Lib.hid hp1
  have R0 := Lib.hid (Row.new w arr.toArray 24)
  have HBa := Lib.hid ((Below.refl _ w).alloc (Nat.le_refl _) (.cells arr.toArray 24))
  clear hT hs hp hrs hrp hp' hok harr hpl hp1 hal
  go_enter Try.func7, Try.ntmps7
  go_wp2_with fail
  obtain ⟨wa, hwa⟩ : ∃ wa, w.alloc (.cells arr.toArray 24) = wa := ⟨_, rfl⟩
  rw [hwa] at R0 HBa ⊢
  clear hwa
  refine (awake04_any _).mono ?_
  rintro e w1 ⟨rfl, hb1⟩
  have HB1 := Lib.hid (below_step HBa.out HBa.out.size hb1)
  have R1 := Lib.hid (R0.out.below' hb1 (Nat.le_refl _))
  clear hb1 R0 HBa
  go_wp2_with fail
  refine (Hp.out w1).mono ?_
  rintro e w2 ⟨rfl, hb2⟩
  obtain ⟨W3, hW3, q5, hkeep, hb3⟩ := filled w2 p
  have HB3 := Lib.hid (below_step (below_step HB1.out HB1.out.size hb2) (Nat.le_trans HB1.out.size hb2.size) hb3)
  have R3 := Lib.hid (hkeep _ _ _ (R1.out.below' hb2 (Nat.le_refl _)))
  have Q3 := Lib.hid q5
  have RN := Lib.hid (Row.new w2 #[.int .u8 0, .int .u8 0, .int .u8 0, .int .u8 0, .int .u8 0, .int .u8 0, .int .u8 0, .int .u8 0, .int .u8 0, .int .u8 0, .int .u8 0, .int .u8 0, .int .u8 0, .int .u8 0, .int .u8 0, .int .u8 0, .int .u8 0, .int .u8 0, .int .u8 0, .int .u8 0, .int .u8 0, .int .u8 0, .int .u8 0, .int .u8 0, .int .u8 0, .int .u8 0, .int .u8 0, .int .u8 0, .int .u8 0, .int .u8 0, .int .u8 0, .int .u8 0] 24)
  have HW3 := Lib.hid hW3
  clear hb2 hb3 q5 hkeep R1 HB1 hW3
  go_wp2_with (refine RN.out.store (m := p) rfl 24 (.tmp 5) (.tmp 17) rfl rfl rfl ip (by rw [Hpl.out]; rfl) Hp1.out ?_)
  rw [HW3.out]
  refine (Hrp.out W3).mono ?_
  rintro e w4 ⟨rfl, hb4⟩
  obtain ⟨W5, hW5, q7, hkeep, hb5⟩ := filled w4 p
  have hB5 := below_step (below_step HB3.out HB3.out.size hb4) (Nat.le_trans HB3.out.size hb4.size) hb5
  have r5 := (hkeep _ _ _ (R3.out.below' hb4 (Nat.le_refl _))).range
  have q5 := (hkeep _ _ _ (Q3.out.below' hb4 (Nat.le_refl _))).range
  have q7 := q7.range
  have RN := Lib.hid (Row.new w4 #[.int .u8 0, .int .u8 0, .int .u8 0, .int .u8 0, .int .u8 0, .int .u8 0, .int .u8 0, .int .u8 0, .int .u8 0, .int .u8 0, .int .u8 0, .int .u8 0, .int .u8 0, .int .u8 0, .int .u8 0, .int .u8 0, .int .u8 0, .int .u8 0, .int .u8 0, .int .u8 0, .int .u8 0, .int .u8 0, .int .u8 0, .int .u8 0, .int .u8 0, .int .u8 0, .int .u8 0, .int .u8 0, .int .u8 0, .int .u8 0, .int .u8 0, .int .u8 0] 24)
  have HW5 := Lib.hid hW5
  clear hb4 hb5 hkeep R3 Q3 HB3 hW5 HW3
  go_wp2_with (refine RN.out.store (m := p) rfl 24 (.tmp 7) (.tmp 22) rfl rfl rfl ip (by rw [Hpl.out]; rfl) Hp1.out ?_)
  rw [HW5.out]
  clear HW5 RN
  refine wp_region_noPanic ?_
  refine wp_region_held_drew (S := (fun w' => w'.rangeAt w.heap.size 0 arr ∧ w'.rangeAt w2.heap.size 0 p ∧ w'.rangeAt w4.heap.size 0 p ∧ Below w.heap.size w w')) (by kernel_rfl) ?_ (fun hHeld => ?_)
  · exact ⟨r5, q5, q7, hB5.drew⟩
  refine wpAnyH_take (i := 0) (oi := { dst := some 24, op := Op.load 24 (Operand.tmp 2), type := 24, pos := "law.go:44", after := #[], guard := none }) (v := _) rfl (by kernel_rfl) (by kernel_rfl) (by kernel_rfl) (fun _ _ _ h => h) (yieldsIf_load_mid (by rfl) _ _ rfl _ _ rfl _ _ (by intro w hSw; (try dsimp only at hSw); go_split_ands; assumption) (by assumption) rfl (by first | assumption | (simp only [*]; done))) (by assumption) ?_
  try simp only [Act.put, List.setIfInBounds_toArray, List.set_cons_zero, List.set_cons_succ]
  refine wpAnyH_take (i := 2) (oi := { dst := some 26, op := Op.load 24 (Operand.tmp 2), type := 24, pos := "law.go:44", after := #[], guard := none }) (v := _) rfl (by kernel_rfl) (by kernel_rfl) (by kernel_rfl) (fun _ _ _ h => h) (yieldsIf_load_mid (by rfl) _ _ rfl _ _ rfl _ _ (by intro w hSw; (try dsimp only at hSw); go_split_ands; assumption) (by assumption) rfl (by first | assumption | (simp only [*]; done))) (by assumption) ?_
  try simp only [Act.put, List.setIfInBounds_toArray, List.set_cons_zero, List.set_cons_succ]
  refine wpAnyH_ready (rs := [1]) (by kernel_rfl) (by simp) (AllReadyH.cons (o := { dst := some 25, op := Op.call { callee := Callee.value (Operand.func 31), args := #[Operand.tmp 24], argTypes := #[24] }, type := 9, pos := "law.go:44", after := #[{ on := 0, ground := Ground.data }], guard := none }) rfl (fun K hK => ?_) AllReadyH.nil)
  go_simp
  refine (Hs.out _).mono ?_; rintro e w' ⟨rfl, hb⟩
  go_wp2_with fail
  refine hK.out _ _ ?_ (fun hHeld => ?_)
  · (try dsimp only); (go_split_ands; refine ⟨rangeAt_below (by assumption) (by assumption), rangeAt_below (by assumption) (by assumption), rangeAt_below (by assumption) (by assumption), below_on (by assumption) (by assumption)⟩)
  clear hK K
  try simp only [Act.put, List.setIfInBounds_toArray, List.set_cons_zero, List.set_cons_succ]
  refine wpAnyH_ready (rs := [3]) (by kernel_rfl) (by simp) (AllReadyH.cons (o := { dst := some 27, op := Op.call { callee := Callee.value (Operand.func 32), args := #[Operand.tmp 26], argTypes := #[24] }, type := 9, pos := "law.go:44", after := #[{ on := 2, ground := Ground.data }, { on := 1, ground := Ground.chain }], guard := none }) rfl (fun K hK => ?_) AllReadyH.nil)
  go_simp
  refine (Hrs.out _).mono ?_; rintro e w' ⟨rfl, hb⟩
  go_wp2_with fail
  refine hK.out _ _ ?_ (fun hHeld => ?_)
  · (try dsimp only); (go_split_ands; refine ⟨rangeAt_below (by assumption) (by assumption), rangeAt_below (by assumption) (by assumption), rangeAt_below (by assumption) (by assumption), below_on (by assumption) (by assumption)⟩)
  clear hK K
  try simp only [Act.put, List.setIfInBounds_toArray, List.set_cons_zero, List.set_cons_succ]
  refine wpAnyH_take (i := 4) (oi := { dst := some 28, op := Op.binOp BinOp.eql 9 (Operand.tmp 25) (Operand.tmp 27) 9, type := 4, pos := "law.go:44", after := #[{ on := 1, ground := Ground.data }, { on := 3, ground := Ground.data }], guard := none }) (v := ?v4) rfl (by kernel_rfl) (by kernel_rfl) (by kernel_rfl) (fun _ _ _ h => h) (Or.inl ⟨by rfl, ?y4⟩) (by assumption) ?r4
  case y4 => intro w hSw; (try dsimp only at hSw); go_simp; try with_reducible rfl
  try simp only [Act.put, List.setIfInBounds_toArray, List.set_cons_zero, List.set_cons_succ]
  refine wpAnyH_take (i := 5) (oi := { dst := some 29, op := Op.move (Operand.tmp 28), type := 4, pos := "law.go:44", after := #[{ on := 4, ground := Ground.data }, { on := 3, ground := Ground.chain }], guard := none }) (v := ?v5) rfl (by kernel_rfl) (by kernel_rfl) (by kernel_rfl) (fun _ _ _ h => h) (Or.inl ⟨by rfl, ?y5⟩) (by assumption) ?r5
  case y5 => intro w hSw; (try dsimp only at hSw); go_simp; try with_reducible rfl
  try simp only [Act.put, List.setIfInBounds_toArray, List.set_cons_zero, List.set_cons_succ]
  refine wpAnyH_take (i := 6) (oi := { dst := some 30, op := Op.move (Operand.tmp 6), type := 4, pos := "law.go:44", after := #[{ on := 5, ground := Ground.guard }], guard := some (5, true) }) (v := ?v6) rfl (by kernel_rfl) (by kernel_rfl) (by kernel_rfl) (fun _ _ _ h => h) (Or.inl ⟨by rfl, ?y6⟩) (by assumption) ?r6
  case y6 => intro w hSw; (try dsimp only at hSw); go_simp; try with_reducible rfl
  try simp only [Act.put, List.setIfInBounds_toArray, List.set_cons_zero, List.set_cons_succ]
  refine wpAnyH_take (i := 7) (oi := { dst := some 31, op := Op.move (Operand.tmp 8), type := 4, pos := "law.go:44", after := #[{ on := 5, ground := Ground.guard }], guard := some (5, true) }) (v := ?v7) rfl (by kernel_rfl) (by kernel_rfl) (by kernel_rfl) (fun _ _ _ h => h) (Or.inl ⟨by rfl, ?y7⟩) (by assumption) ?r7
  case y7 => intro w hSw; (try dsimp only at hSw); go_simp; try with_reducible rfl
  try simp only [Act.put, List.setIfInBounds_toArray, List.set_cons_zero, List.set_cons_succ]
  refine wpAnyH_take (i := 8) (oi := { dst := some 32, op := Op.binOp BinOp.eql 4 (Operand.tmp 30) (Operand.tmp 31) 4, type := 4, pos := "law.go:44", after := #[{ on := 6, ground := Ground.data }, { on := 7, ground := Ground.data }, { on := 5, ground := Ground.guard }], guard := some (5, true) }) (v := ?v8) rfl (by kernel_rfl) (by kernel_rfl) (by kernel_rfl) (fun _ _ _ h => h) (Or.inl ⟨by rfl, ?y8⟩) (by assumption) ?r8
  case y8 => intro w hSw; (try dsimp only at hSw); go_simp; try with_reducible rfl
  try simp only [Act.put, List.setIfInBounds_toArray, List.set_cons_zero, List.set_cons_succ]
  refine wpAnyH_take (i := 9) (oi := { dst := some 33, op := Op.pick (Operand.tmp 29) (Operand.tmp 32) (Operand.const (Value.bool false)), type := 4, pos := "law.go:44", after := #[{ on := 5, ground := Ground.data }, { on := 8, ground := Ground.data }], guard := none }) (v := ?v9) rfl (by kernel_rfl) (by kernel_rfl) (by kernel_rfl) (fun _ _ _ h => h) (Or.inl ⟨by rfl, ?y9⟩) (by assumption) ?r9
  case y9 => intro w hSw; (try dsimp only at hSw); go_simp; try with_reducible rfl
  try simp only [Act.put, List.setIfInBounds_toArray, List.set_cons_zero, List.set_cons_succ]
  refine wpAnyH_take (i := 10) (oi := { dst := some 34, op := Op.move (Operand.tmp 33), type := 4, pos := "law.go:44", after := #[{ on := 9, ground := Ground.data }, { on := 5, ground := Ground.chain }], guard := none }) (v := ?v10) rfl (by kernel_rfl) (by kernel_rfl) (by kernel_rfl) (fun _ _ _ h => h) (Or.inl ⟨by rfl, ?y10⟩) (by assumption) ?r10
  case y10 => intro w hSw; (try dsimp only at hSw); go_simp; try with_reducible rfl
  try simp only [Act.put, List.setIfInBounds_toArray, List.set_cons_zero, List.set_cons_succ]
  refine wpAnyH_take (i := 11) (oi := { dst := some 35, op := Op.load 24 (Operand.tmp 5), type := 24, pos := "law.go:44", after := #[{ on := 10, ground := Ground.guard }], guard := some (10, true) }) (v := _) rfl (by kernel_rfl) (by kernel_rfl) (by kernel_rfl) (fun _ _ _ h => h) (yieldsIf_load_mid (by rfl) _ _ rfl _ _ rfl _ _ (by intro w hSw; (try dsimp only at hSw); go_split_ands; assumption) (by assumption) rfl (by first | assumption | (simp only [*]; done))) (by assumption) ?_
  try simp only [Act.put, List.setIfInBounds_toArray, List.set_cons_zero, List.set_cons_succ]
  refine wpAnyH_take (i := 12) (oi := { dst := some 36, op := Op.load 24 (Operand.tmp 7), type := 24, pos := "law.go:44", after := #[{ on := 10, ground := Ground.guard }], guard := some (10, true) }) (v := _) rfl (by kernel_rfl) (by kernel_rfl) (by kernel_rfl) (fun _ _ _ h => h) (yieldsIf_load_mid (by rfl) _ _ rfl _ _ rfl _ _ (by intro w hSw; (try dsimp only at hSw); go_split_ands; assumption) (by assumption) rfl (by first | assumption | (simp only [*]; done))) (by assumption) ?_
  try simp only [Act.put, List.setIfInBounds_toArray, List.set_cons_zero, List.set_cons_succ]
  refine wpAnyH_take (i := 13) (oi := { dst := some 37, op := Op.binOp BinOp.eql 24 (Operand.tmp 35) (Operand.tmp 36) 24, type := 4, pos := "law.go:44", after := #[{ on := 11, ground := Ground.data }, { on := 12, ground := Ground.data }, { on := 10, ground := Ground.guard }], guard := some (10, true) }) (v := ?v13) rfl (by kernel_rfl) (by kernel_rfl) (by kernel_rfl) (fun _ _ _ h => h) (Or.inl ⟨by rfl, ?y13⟩) (by assumption) ?r13
  case y13 => intro w hSw; (try dsimp only at hSw); go_simp; try with_reducible rfl
  try simp only [Act.put, List.setIfInBounds_toArray, List.set_cons_zero, List.set_cons_succ]
  refine wpAnyH_take (i := 14) (oi := { dst := some 38, op := Op.pick (Operand.tmp 34) (Operand.tmp 37) (Operand.const (Value.bool false)), type := 4, pos := "law.go:44", after := #[{ on := 10, ground := Ground.data }, { on := 13, ground := Ground.data }], guard := none }) (v := ?v14) rfl (by kernel_rfl) (by kernel_rfl) (by kernel_rfl) (fun _ _ _ h => h) (Or.inl ⟨by rfl, ?y14⟩) (by assumption) ?r14
  case y14 => intro w hSw; (try dsimp only at hSw); go_simp; try with_reducible rfl
  try simp only [Act.put, List.setIfInBounds_toArray, List.set_cons_zero, List.set_cons_succ]
  refine wpAnyH_take (i := 15) (oi := { dst := some 4, op := Op.assign (Operand.tmp 38), type := 4, pos := "law.go:44", after := #[{ on := 14, ground := Ground.data }, { on := 10, ground := Ground.chain }, { on := 0, ground := Ground.phase }, { on := 1, ground := Ground.phase }, { on := 2, ground := Ground.phase }, { on := 3, ground := Ground.phase }, { on := 4, ground := Ground.phase }, { on := 5, ground := Ground.phase }, { on := 6, ground := Ground.phase }, { on := 7, ground := Ground.phase }, { on := 8, ground := Ground.phase }, { on := 9, ground := Ground.phase }, { on := 10, ground := Ground.phase }, { on := 11, ground := Ground.phase }, { on := 12, ground := Ground.phase }, { on := 13, ground := Ground.phase }, { on := 14, ground := Ground.phase }], guard := none }) (v := ?v15) rfl (by kernel_rfl) (by kernel_rfl) (by kernel_rfl) (fun _ _ _ h => h) (Or.inl ⟨by rfl, ?y15⟩) (by assumption) ?r15
  case y15 => intro w hSw; (try dsimp only at hSw); go_simp; try with_reducible rfl
  try simp only [Act.put, List.setIfInBounds_toArray, List.set_cons_zero, List.set_cons_succ]
  refine wpAnyH_done (by kernel_rfl) ?_ _
  refine NoPanic.normal ?_
  have hfin := Lib.hid hHeld.2.2.2
  clear hHeld hu ia ip r5 q5 q7 hB5
  go_wp2
  go_ret
  exact ⟨rfl, hfin.out⟩
set_option maxHeartbeats 1000000 in
set_option maxRecDepth 100000 in
theorem texts_many (h : List UInt8) (S : ByteArray) (w : World) (hs : 200 < S.size) :
    Calls Try.prog 7 #[.agg (enc8 h).toArray, .string S] w fun e w' => e = .returned (.bool true) ∧ Below w.heap.size w w' := by
  have d1 : decide (200 < S.size) = true := by simp; omega
  have d2 : decide ((200 : Int) < (S.size : Int)) = true := by simp; omega
  clear hs
  obtain ⟨arr, harr⟩ : ∃ arr, enc8 h = arr := ⟨_, rfl⟩
  rw [harr]
  have HBa := Lib.hid ((Below.refl _ w).alloc (Nat.le_refl _) (.cells arr.toArray 24))
  clear harr
  go_enter Try.func7, Try.ntmps7
  go_wp2_with fail
  refine (awake04_any _).mono ?_
  rintro e w1 ⟨rfl, hb1⟩
  have HB1 := Lib.hid (below_step HBa.out HBa.out.size hb1)
  clear hb1
  go_wp2
  go_ret
  exact ⟨rfl, HB1.out⟩
theorem digestTexts_walk (v : Value) (h : List UInt8) (S : ByteArray) (w : World) (hv : v = .agg (enc8 h).toArray ∧ h.length = 32) (_ : S.size ≤ maxLen) :
    Calls Try.prog 7 #[v, .string S] w fun e w' => e = .returned (.bool true) ∧ Below w.heap.size w w' := by
  obtain ⟨rfl, hl⟩ := hv
  by_cases k : 200 < S.size
  · exact texts_many h S w k
  · exact texts_few h S w hl (by omega)

/-! ## How an array of 32 bytes reads -/
theorem mapM_some {α β : Type} {f : α → Option β} : ∀ (L : List α) (xs : List β), L.mapM f = some xs → ∀ i, i ∈ L → ∃ y, f i = some y
  | [], _, _, i, hi => by cases hi
  | a :: L, xs, h, i, hi => by
    rw [List.mapM_cons] at h
    simp only [bind, Option.bind_eq_some_iff, pure, Option.some.injEq] at h
    obtain ⟨y, hy, ys, hys, rfl⟩ := h
    rcases List.mem_cons.1 hi with rfl | hi
    · exact ⟨y, hy⟩
    · exact mapM_some L ys hys i hi
def byteOf : Value → UInt8
  | .int _ n => UInt8.ofNat n.toNat
  | _ => 0
open Go.ChangeShapes Go.WideShapes Go.ChangeAt in
set_option maxRecDepth 100000 in
theorem Open.cells_sum {H : Type} {enc : TypeId × Value → H} {W : World} {fuel : Nat} {cs : List Value} {x : DataW H × List MemPlace}
    (h : DataW.trod enc Try.prog W 0 (fun _ => true) true fuel 24 cs = some x) : ∃ l : List UInt8, cs = enc8 l ∧ l.length = 32 := by
  have hcell : Try.prog.cellsOf 24 = 32 := by kernel_rfl
  have hcell1 : Try.prog.cellsOf 5 = 1 := by kernel_rfl
  cases fuel with
  | zero => simp [DataW.trod] at h
  | succ m =>
    rw [DataW.trod_step] at h
    unfold DataW.trodStep at h
    simp only [Try.underlying24] at h
    by_cases hc : cs.length = Try.prog.cellsOf 24
    · rw [if_pos hc] at h
      rw [hcell] at hc
      simp only [Option.map_eq_some_iff] at h
      obtain ⟨ys, hy, _⟩ := h
      have hall := mapM_some _ _ hy
      have hone : ∀ i (hi : i < 32), ∃ b : UInt8, cs[i]? = some (.int .u8 (b.toNat : Int)) := by
        intro i hi
        obtain ⟨y, hy⟩ := hall i (List.mem_range.2 hi)
        obtain ⟨a, ea, _, wa⟩ := DataW.trod_int Try.underlying5 hy
        rw [hcell1, Nat.mul_one] at ea
        have e0 : cs[i]? = some (.int .u8 a) := by
          have := congrArg (fun l => l[0]?) ea
          simpa [List.getElem?_take_of_lt] using this
        have hb := bounds_u8 wa
        refine ⟨UInt8.ofNat a.toNat, ?_⟩
        rw [e0, UInt8.toNat_ofNat']
        congr 2
        omega
      refine ⟨cs.map byteOf, ?_, by simpa using hc⟩
      apply List.ext_getElem?
      intro i
      by_cases hi : i < 32
      · obtain ⟨b, hb⟩ := hone i hi
        unfold enc8
        rw [List.map_map, List.getElem?_map, hb]
        simp [byteOf]
      · rw [List.getElem?_eq_none (by omega), List.getElem?_eq_none (by rw [enc8_len]; simp; omega)]
    · rw [if_neg hc] at h
      cases h
open Go.ChangeShapes Go.WideShapes Go.ChangeAt in
theorem Open.sum {H : Type} {enc : TypeId × Value → H} {W : World} {b0 : Nat} {v : Value} {d : DataW H} {p : List MemPlace} (hv : Value.okWide Try.prog W .any b0 24 v)
    (h : DataW.Trod enc Try.prog W 0 (fun _ => true) true 24 v d p) : ∃ l : List UInt8, v = .agg (enc8 l).toArray ∧ l.length = 32 := by
  simp only [Value.okWide, Try.underlying24] at hv
  obtain ⟨cs, rfl, _⟩ := hv
  obtain ⟨fuel, hf⟩ := h
  obtain ⟨l, hl, h32⟩ := Open.cells_sum hf
  refine ⟨l, ?_, h32⟩
  congr 1
  rw [← hl]
  simp [Value.cells]
end Go.Proofs.Ytkipnhhdlohnfaa

/- TokenTerms, TokenJoined. -/
import Derived.RangeFuncNested
import Derived.RangeFuncBound
import Derived.RangeFuncCalls
import Derived.RangeFuncLeaves
import Derived.Shelf.Abstract
import Derived.Shelf.RegionOpen
import Derived.WalkKit
import Derived.OwnWalkIn
import Derived.TacticsInMore
import Derived.LoopNIn
import Derived.LoopIn
import Derived.Outline
import Derived.Lib.Hide
import Derived.Lib.SliceRun
import Derived.IntWalk
import Derived.WalkLawsBesides
import Derived.WalkSpells
import Derived.Laws.BitsAllLaws
import Derived.Lib.ConvBytes
import Derived.Maps.AppendAt
import Derived.Lib.AppendStr
import Derived.Lib.SlBytesConst
import Derived.Laws.AppendOwnNone
import Derived.Laws.OwnMore
import Derived.Laws.BytesArg
import Derived.Deep.RegionHeld3
import Derived.BigQuiet
import Derived.Deep.RegionLaw
import Derived.Deep.QuietTactic
import Derived.Lib.OthersKept
import Derived.Test.YthcggjehihkdoaaProg
import Derived.Deep.DeepFit
import Derived.Test.YthcggjehihkdoaaTkJ
set_option linter.unusedVariables false
set_option linter.unusedSimpArgs false
namespace Go.Proofs.Ythcggjehihkdoaa
open Go Go.RowKit Go.Shelf
open Go.Proofs (encStr)

theorem wpT_any {w : World} {ops : Array Oper} {rest : List Oper} {o : Oper} {a : Act} {Q : Exit → Act → World → Prop} (hgd : o.guard = none) (s x : Operand)
    (ho : o.op = .call { callee := .builtin .append, args := #[s, x], argTypes := #[31, 31] })
    (base : Nat) (v xv : Value) (ss m : List (List UInt8)) (hs : a.eval s = v) (hown : OT w base v ss) (hx : a.eval x = xv) (hm : TS w xv m) (hlen : ss.length + m.length ≤ 1000000) (hbase : base ≤ w.heap.size)
    (h : ∀ v' w', OT w' base v' (ss ++ m) → Below base w w' → wpList Try.prog ops Q rest (a.put o.dst v') w') : wpList Try.prog ops Q (o :: rest) a w := by
  refine wpList_plain hgd fun K hK => ?_
  obtain ⟨v', w', hrun, h1, h2, h3⟩ := runT_any o.type base v xv ss m hown hm hlen hbase
  unfold Oper.wp
  simp [execOp, ho, resolve, invoke, builtin, hs, hx, hrun, Result.andThen]
  exact hK _ _ (h v' w' h1 h3)
set_option maxHeartbeats 4000000 in
set_option maxRecDepth 100000 in
theorem tokenJoined_walk (v1 : Value) (l1 : List UInt8) (v2 : Value) (l2 : List UInt8) (w : World) (h1 : SB w v1 l1) (h2 : SB w v2 l2) :
    Calls Try.prog 10 #[v1, v2] w fun e w' => e = .returned (.bool true) ∧ Below w.heap.size w w' := by
  obtain ⟨A1, c1, rfl, -, -, -⟩ := h1.form
  obtain ⟨A2, c2, rfl, -, -, -⟩ := h2.form
  obtain ⟨L1, hL1⟩ : ∃ L, l1.length = L := ⟨_, rfl⟩
  obtain ⟨L2, hL2⟩ : ∃ L, l2.length = L := ⟨_, rfl⟩
  have HL1 := Lib.hid hL1
  have HL2 := Lib.hid hL2
  have HS1 := Lib.hid h1
  have HS2 := Lib.hid h2
  rw [hL1] at HS1 ⊢
  rw [hL2] at HS2 ⊢
  obtain ⟨B, hB⟩ : ∃ B, w.heap.size = B := ⟨_, rfl⟩
  have haw := awake12_any w
  rw [hB] at haw ⊢
  have HAW := Lib.hid haw
  have HSB1 : Hid (∀ w', Below B w w' → SB w' (.slice A1 L1 c1) l1) := fun w' hb => HS1.out.below (hB ▸ hb)
  have HSB2 : Hid (∀ w', Below B w w' → SB w' (.slice A2 L2 c2) l2) := fun w' hb => HS2.out.below (hB ▸ hb)
  have hw1 := words_len l1
  have hw2 := words_len l2
  have HW1 : Hid ((words l1).length ≤ L1 + 1) := by show _ ≤ _; rw [← hL1]; exact hw1
  have HW2 : Hid ((words l2).length ≤ L2 + 1) := by show _ ≤ _; rw [← hL2]; exact hw2
  have hj : words (l1 ++ [32] ++ l2) = words l1 ++ words l2 := by
    rw [List.append_assoc]; exact words_joined l1 l2
  have HJ := Lib.hid hj
  clear h1 h2 hL1 hL2 haw hw1 hw2 hj
  have q1 : decide ((1000 : Int) < (L1 : Int)) = decide (1000 < L1) := few_facts L1 1000
  have q2 : decide ((1000 : Int) < (L2 : Int)) = decide (1000 < L2) := few_facts L2 1000
  by_cases hl1 : L1 ≤ 1000
  · rw [decide_eq_false (show ¬ 1000 < L1 by omega)] at q1
    have q1' : decide (1000 < L1) = false := decide_eq_false (by omega)
    by_cases hl2 : L2 ≤ 1000
    · rw [decide_eq_false (show ¬ 1000 < L2 by omega)] at q2
      have q2' : decide (1000 < L2) = false := decide_eq_false (by omega)
      go_enter Try.func10, Try.ntmps10
      go_wp2_with fail
      refine HAW.out.mono ?_
      rintro e w1 ⟨rfl, hb1⟩
      have HB1 := Lib.hid hb1
      have hn1 : B ≤ w1.heap.size := by rw [← hB]; exact hb1.size
      have HX1 := Lib.hid (HSB1.out _ hb1)
      clear hb1
      have HO0 : Hid (OB w1 B (.slice none 0 0) []) := World.ownsRow_nil _ _ _ _
      have HLL : Hid (([] : List UInt8).length + l1.length ≤ 140737488355328) := by have := HL1.out; show _ ≤ _; simp; omega
      go_wp2_with (refine wpB_append rfl _ _ rfl B (.slice none 0 0) (.slice A1 L1 c1) [] l1 rfl HO0.out rfl HX1.out HLL.out hn1 ?_)
      intro v3 w3 ho3 _ hb3
      obtain ⟨m1, hm1⟩ : ∃ m, l1 = m := ⟨_, rfl⟩
      have ho3' : OB w3 B v3 m1 := by rw [← hm1]; exact ho3
      clear ho3
      have ho3 := ho3'
      have HM1 : Hid (m1.length = L1) := by show _ = _; rw [← hm1]; exact HL1.out
      have HJ1 : Hid (words (m1 ++ [32] ++ l2) = words l1 ++ words l2) := by rw [← hm1]; exact HJ.out
      clear hm1 HJ ho3'
      obtain ⟨A3, c3, rfl, -, -, -⟩ := ho3.reads.form
      rw [HM1.out] at ho3 ⊢
      have hn3 : B ≤ w3.heap.size := Nat.le_trans hn1 hb3.size
      have hb13 := HB1.out.trans hb3
      have hba : Below w3.heap.size w3 (w3.alloc (.cells #[.int .u8 32] 5)) := (Below.refl _ _).alloc (Nat.le_refl _) _
      have HO3 := Lib.hid (OB.below ho3 hba)
      have HE := Lib.hid ((OB_lit w3 #[.int .u8 32] [32] (by simp) rfl).reads)
      have HB3 := Lib.hid (hb13.trans (hba.mono hn3))
      have hn3' : B ≤ (w3.alloc (.cells #[.int .u8 32] 5)).heap.size := Nat.le_trans hn3 hba.size
      have HN3 := Lib.hid hn3'
      clear ho3 hb3 hb13 hba hn3'
      go_wp2_with (at_builtin; (refine wpB_append rfl _ _ rfl B _ _ m1 [32] rfl HO3.out rfl HE.out (by have := HM1.out; simp; omega) HN3.out ?_))
      intro v4 w4 ho4 _ hb4
      obtain ⟨m2, hm2⟩ : ∃ m, m1 ++ [32] = m := ⟨_, rfl⟩
      rw [hm2] at ho4
      have HM2 : Hid (m2.length = L1 + 1) := by show _ = _; rw [← hm2]; simp; exact HM1.out
      have HJ2 : Hid (words (m2 ++ l2) = words l1 ++ words l2) := by rw [← hm2]; exact HJ1.out
      clear hm2 HJ1
      obtain ⟨A4, c4, rfl, -, -, -⟩ := ho4.reads.form
      have HB4 := Lib.hid (HB3.out.trans hb4)
      have hn4 : B ≤ w4.heap.size := Nat.le_trans HN3.out hb4.size
      have HO4 := Lib.hid ho4
      have HX2 := Lib.hid (HSB2.out _ HB4.out)
      clear ho4 hb4 HO3 HE
      go_wp2_with (at_builtin; refine wpB_append rfl _ _ rfl B _ _ m2 l2 rfl HO4.out rfl HX2.out (by have := HM2.out; have := HL2.out; omega) hn4 ?_)
      intro v5 w5 ho5 _ hb5
      have HB5 := Lib.hid (HB4.out.trans hb5)
      have hn5 : B ≤ w5.heap.size := Nat.le_trans hn4 hb5.size
      have hcx := words_any _ _ w5 (by have := HM2.out; have := HL2.out; simp; omega) ho5.reads
      rw [HJ2.out] at hcx
      have HCX := Lib.hid hcx
      clear ho5 hb5 hcx HO4 HX2
      go_wp2_with fail
      refine HCX.out.mono ?_
      rintro e w6 ⟨u6, rfl, ho6, hb6⟩
      have HB6 := Lib.hid (HB5.out.trans (hb6.mono hn5))
      have hn6 : B ≤ w6.heap.size := Nat.le_trans hn5 hb6.size
      have hca := words_any _ l1 w6 (by have := HL1.out; omega) (HSB1.out _ HB6.out)
      have HCA := Lib.hid hca
      have HR6 : Hid (∀ W, Below w6.heap.size w6 W → TS W u6 (words l1 ++ words l2)) := fun W hb => ho6.reads.below hb
      clear ho6 hb6 hca
      go_wp2_with fail
      refine HCA.out.mono ?_
      rintro e w7 ⟨u7, rfl, ho7, hb7⟩
      have HB7 := Lib.hid (HB6.out.trans (hb7.mono hn6))
      have hn7 : B ≤ w7.heap.size := Nat.le_trans hn6 hb7.size
      have hcb := words_any _ l2 w7 (by have := HL2.out; omega) (HSB2.out _ HB7.out)
      have HCB := Lib.hid hcb
      have HO7 := Lib.hid ho7
      have HB67 := Lib.hid hb7
      have HN67 : Hid (w6.heap.size ≤ w7.heap.size) := hb7.size
      clear ho7 hb7 hcb
      go_wp2_with fail
      refine HCB.out.mono ?_
      rintro e w8 ⟨u8, rfl, ho8, hb8⟩
      have HB8 := Lib.hid (HB7.out.trans (hb8.mono hn7))
      have hn8 : w7.heap.size ≤ w8.heap.size := hb8.size
      have HO8 := Lib.hid ho8.reads
      have HO78 := Lib.hid ((HO7.out.below hb8))
      have HB68 := Lib.hid (HB67.out.trans (hb8.mono HN67.out))
      clear ho8 hb8 HO7
      obtain ⟨A7, c7, rfl, -, -⟩ := HO78.out.reads
      go_wp2_with (at_builtin; refine wpT_any rfl _ _ rfl w6.heap.size _ _ (words l1) (words l2) rfl HO78.out rfl HO8.out (by have := HW1.out; have := HW2.out; omega) (Nat.le_trans HN67.out hn8) ?_)
      intro v9 w9 ho9 hb9
      have HT6 := Lib.hid (HR6.out w9 (HB68.out.trans hb9))
      have hcs := same_true _ _ (words l1 ++ words l2) w9 (by have := HW1.out; have := HW2.out; simp; omega) HT6.out ho9.reads
      have HCS := Lib.hid hcs
      have HB9 := Lib.hid (HB8.out.trans (hb9.mono hn6))
      have hn9 : B ≤ w9.heap.size := by rw [← hB]; exact HB9.out.size
      clear ho9 hb9 hcs
      go_wp2_with fail
      refine HCS.out.mono ?_
      rintro e w10 ⟨rfl, hb10⟩
      have HB10 := Lib.hid (HB9.out.trans (hb10.mono hn9))
      clear hb10
      go_wp2
      go_ret
      exact ⟨rfl, HB10.out⟩
    · rw [decide_eq_true (show 1000 < L2 by omega)] at q2
      have q2' : decide (1000 < L2) = true := decide_eq_true (by omega)
      go_enter Try.func10, Try.ntmps10
      go_wp2_with fail
      refine HAW.out.mono ?_
      rintro e w1 ⟨rfl, hb1⟩
      have HB1 := Lib.hid hb1
      clear hb1
      go_wp2
      go_ret
      exact ⟨rfl, HB1.out⟩
  · rw [decide_eq_true (show 1000 < L1 by omega)] at q1
    have q1' : decide (1000 < L1) = true := decide_eq_true (by omega)
    clear q2
    go_enter Try.func10, Try.ntmps10
    go_wp2_with fail
    refine HAW.out.mono ?_
    rintro e w1 ⟨rfl, hb1⟩
    have HB1 := Lib.hid hb1
    clear hb1
    go_wp2
    go_ret
    exact ⟨rfl, HB1.out⟩
end Go.Proofs.Ythcggjehihkdoaa

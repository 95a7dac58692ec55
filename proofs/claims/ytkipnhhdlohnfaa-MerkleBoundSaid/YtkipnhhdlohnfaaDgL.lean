/- DigestJoins. -/
import Derived.RangeFuncNested
import Derived.RangeFuncBound
import Derived.RangeFuncCalls
import Derived.RangeFuncLeaves
import Derived.Shelf.Abstract
import Derived.Shelf.RegionOpen
import Derived.WalkKit
import Derived.OwnWalkIn
import Derived.TacticsInMore
import Derived.LoopNIn
import Derived.LoopIn
import Derived.Outline
import Derived.Lib.Hide
import Derived.Lib.SliceRun
import Derived.IntWalk
import Derived.WalkLawsBesides
import Derived.WalkSpells
import Derived.Laws.BitsAllLaws
import Derived.Lib.ConvBytes
import Derived.Maps.AppendAt
import Derived.Lib.AppendStr
import Derived.Lib.SlBytesConst
import Derived.Laws.AppendOwnNone
import Derived.Laws.OwnMore
import Derived.Laws.BytesArg
import Derived.Deep.RegionHeld3
import Derived.BigQuiet
import Derived.Deep.RegionLaw
import Derived.Deep.QuietTactic
import Derived.Test.YtkipnhhdlohnfaaProg
import Derived.Test.YtkipnhhdlohnfaaDgK
set_option linter.unusedVariables false
set_option linter.unusedSimpArgs false
namespace Go.Proofs.Ytkipnhhdlohnfaa
open Go Go.RowKit Go.Shelf

theorem SS_lit3 (w : World) (A B C : Option Addr) (n m k c d e : Nat) (x y z : List UInt8) (t : TypeId) (hx : SB w (.slice A n c) x) (hy : SB w (.slice B m d) y) (hz : SB w (.slice C k e) z) :
    SS (w.alloc (.cells #[.slice A n c, .slice B m d, .slice C k e] t)) (.slice (some ⟨w.heap.size, 0, none⟩) 3 3) [x, y, z] := by
  have hb := (Below.refl w.heap.size w).alloc (Nat.le_refl _) (.cells #[.slice A n c, .slice B m d, .slice C k e] t)
  refine .inr ⟨_, 3, rfl, by simp, fun _ => ⟨w.heap.size, 0, rfl, fun i hi => ?_⟩⟩
  have hr := Row.new w #[.slice A n c, .slice B m d, .slice C k e] t
  have hi' : i = 0 ∨ i = 1 ∨ i = 2 := by simp at hi; omega
  rcases hi' with rfl | rfl | rfl
  · exact ⟨_, by rw [Nat.zero_add, hr.cell 0]; rfl, hx.below hb⟩
  · exact ⟨_, by rw [Nat.zero_add, hr.cell 1]; rfl, hy.below hb⟩
  · exact ⟨_, by rw [Nat.zero_add, hr.cell 2]; rfl, hz.below hb⟩
theorem SS_nil (w : World) : SS w (.slice none 0 0) [] := .inl ⟨rfl, rfl⟩
theorem SB_nil (w : World) : SB w (.slice none 0 0) [] := .inl ⟨rfl, rfl⟩

set_option maxHeartbeats 1000000 in
set_option maxRecDepth 100000 in
theorem joins_few (va vb vc : Value) (a b c : List UInt8) (w : World) (ha : SB w va a) (hb : SB w vb b) (hc : SB w vc c) (ka : a.length ≤ 1000) (kb : b.length ≤ 1000) (kc : c.length ≤ 1000) :
    Calls Try.prog 4 #[va, vb, vc] w fun e w' => e = .returned (.bool true) ∧ Below w.heap.size w w' := by
  obtain ⟨A, ca, rfl, ha1, ha2, -⟩ := ha.form
  obtain ⟨B, cb, rfl, hb1, hb2, -⟩ := hb.form
  obtain ⟨C, cc, rfl, hc1, hc2, -⟩ := hc.form
  have Ha := Lib.hid ha
  have Hb := Lib.hid hb
  have Hc := Lib.hid hc
  have da : decide (1000 < a.length) = false := by simp; omega
  have da' : decide ((1000 : Int) < (a.length : Int)) = false := by simp; omega
  have db : decide (1000 < b.length) = false := by simp; omega
  have db' : decide ((1000 : Int) < (b.length : Int)) = false := by simp; omega
  have dc : decide (1000 < c.length) = false := by simp; omega
  have dc' : decide ((1000 : Int) < (c.length : Int)) = false := by simp; omega
  have da2 : decide ((1000 : Int) < (a.length : Int)) = false := by simp; omega
  have db2 : decide ((1000 : Int) < (b.length : Int)) = false := by simp; omega
  have dc2 : decide ((1000 : Int) < (c.length : Int)) = false := by simp; omega
  clear ha hb hc
  go_enter Try.func4, Try.ntmps4
  go_wp2_with fail
  refine (awake04_any _).mono ?_
  rintro e w1 ⟨rfl, hb1'⟩
  have HB1 := Lib.hid hb1'
  clear hb1'
  go_wp2_with (refine wpB_append rfl _ _ rfl w1.heap.size (.slice none 0 0) _ [] a rfl (World.ownsRow_nil _ _ _ _) rfl (Ha.out.below HB1.out) (by simp; omega) (Nat.le_refl _) ?_)
  intro v2 w2 hown2 _ hbel2
  have Hown2 : Hid (OB w2 w1.heap.size v2 a) := hown2
  have HB2 := Lib.hid (HB1.out.trans (hbel2.mono HB1.out.size))
  have hs2 : w1.heap.size ≤ w2.heap.size := hbel2.size
  obtain ⟨A2, c2, rfl, hd1, hd2, -⟩ := Hown2.out.reads.form
  clear hown2 hbel2
  go_wp2_with (at_builtin; refine wpB_append rfl _ _ rfl w1.heap.size _ _ a b rfl Hown2.out rfl (Hb.out.below HB2.out) (by omega) hs2 ?_)
  intro v3 w3 hown3 _ hbel3
  have Hown3 := Lib.hid hown3
  have HB3 := Lib.hid (HB2.out.trans (hbel3.mono HB1.out.size))
  have hs3 : w1.heap.size ≤ w3.heap.size := Nat.le_trans hs2 hbel3.size
  obtain ⟨A3, c3, rfl, hd3, hd4, -⟩ := Hown3.out.reads.form
  clear hown3 hbel3 Hown2 HB2
  go_wp2_with (at_builtin; refine wpB_append rfl _ _ rfl w1.heap.size _ _ (a ++ b) c rfl Hown3.out rfl (Hc.out.below HB3.out) (by simp; omega) hs3 ?_)
  intro v4 w4 hown4 _ hbel4
  have HB4 := Lib.hid (HB3.out.trans (hbel4.mono HB1.out.size))
  have hs4 : w1.heap.size ≤ w4.heap.size := Nat.le_trans hs3 hbel4.size
  obtain ⟨A4, c4, rfl, hd5, hd6, -⟩ := hown4.reads.form
  have HSB4 := Lib.hid hown4.reads
  have hss := SS_lit3 w4 A B C a.length b.length c.length ca cb cc a b c 22 (Ha.out.below HB4.out) (Hb.out.below HB4.out) (Hc.out.below HB4.out)
  have hfl : ([a, b, c] : List (List UInt8)).flatten = a ++ (b ++ c) := by simp
  have hj := join_any _ [a, b, c] _ hss (by rw [hfl]; simp; omega)
  rw [hfl] at hj
  have hml : (a ++ (b ++ c)).length ≤ 3000 := by simp; omega
  obtain ⟨m, hm⟩ : ∃ m, a ++ (b ++ c) = m := ⟨_, rfl⟩
  rw [hm] at hj HSB4 hd5 hml ⊢
  have Hj := Lib.hid hj
  clear hown4 hbel4 Hown3 HB3 hss hfl hj hm
  go_wp2_with fail
  go_fit (Hj.out)
  rintro e w5 ⟨rfl, hb5⟩
  have hb5' := (Below.refl w4.heap.size w4).alloc (Nat.le_refl _) (.cells #[.slice A a.length ca, .slice B b.length cb, .slice C c.length cc] 22)
  have hb45 := hb5'.trans (hb5.mono hb5'.size)
  have HSB5 := Lib.hid (HSB4.out.below hb45)
  have HB5 := Lib.hid (HB4.out.trans (hb45.mono HB4.out.size))
  clear hb5 hb5' hb45 Hj HSB4 HB4
  go_wp2_with fail
  refine (rsum_any _ m w5 HSB5.out (by omega)).mono ?_
  rintro e w6 ⟨rfl, hb6⟩
  have HB6 := Lib.hid (HB5.out.trans (hb6.mono HB5.out.size))
  have heq := fun w => run_eql_sum (sumL m) (sumL m) (sumL_length m) (sumL_length m) w
  have heq0 := fun w => run_eql_sum (sumL []) (sumL []) (sumL_length []) (sumL_length []) w
  have hj0 := join_any _ [] w6 (SS_nil w6) (by simp)
  rw [show ([] : List (List UInt8)).flatten = [] from rfl] at hj0
  have hr0 := fun w => rsum_any _ [] w (SB_nil w) (by simp)
  simp only [beq_self_eq_true] at heq heq0
  obtain ⟨out, hout⟩ : ∃ out, sumL m = out := ⟨_, rfl⟩
  rw [hout] at heq ⊢
  obtain ⟨out0, hout0⟩ : ∃ out0, sumL [] = out0 := ⟨_, rfl⟩
  rw [hout0] at heq0 hj0
  simp only [hout0] at hr0
  have Hj0 := Lib.hid hj0
  have Hr0 := Lib.hid hr0
  clear hout hout0 hb6 hj0 hr0 HB5 HSB5
  go_wp2_with fail
  refine Hj0.out.mono ?_
  rintro e w7 ⟨rfl, hb7⟩
  have HB7 := Lib.hid (HB6.out.trans (hb7.mono HB6.out.size))
  clear hb7 HB6
  go_wp2_with fail
  refine (Hr0.out w7).mono ?_
  rintro e w8 ⟨rfl, hb8⟩
  have HB8 := Lib.hid (HB7.out.trans (hb8.mono HB7.out.size))
  clear hb8 HB7
  go_wp2
  go_ret
  exact ⟨rfl, HB8.out⟩

set_option maxHeartbeats 1000000 in
set_option maxRecDepth 100000 in
theorem joins_many (va vb vc : Value) (a b c : List UInt8) (w : World) (ha : SB w va a) (hb : SB w vb b) (hc : SB w vc c) (k : 1000 < a.length ∨ 1000 < b.length ∨ 1000 < c.length) :
    Calls Try.prog 4 #[va, vb, vc] w fun e w' => e = .returned (.bool true) ∧ Below w.heap.size w w' := by
  obtain ⟨A, ca, rfl, ha1, ha2, -⟩ := ha.form
  obtain ⟨B, cb, rfl, hb1, hb2, -⟩ := hb.form
  obtain ⟨C, cc, rfl, hc1, hc2, -⟩ := hc.form
  clear ha hb hc
  by_cases ka : 1000 < a.length
  · have da : decide (1000 < a.length) = true := by simp; omega
    go_enter Try.func4, Try.ntmps4
    go_wp2_with fail
    refine (awake04_any _).mono ?_
    rintro e w1 ⟨rfl, hb1'⟩
    go_wp2
    go_ret
    exact ⟨rfl, hb1'⟩
  · have da : decide (1000 < a.length) = false := by simp; omega
    by_cases kb : 1000 < b.length
    · have db : decide (1000 < b.length) = true := by simp; omega
      clear k
      go_enter Try.func4, Try.ntmps4
      go_wp2_with fail
      refine (awake04_any _).mono ?_
      rintro e w1 ⟨rfl, hb1'⟩
      go_wp2
      go_ret
      exact ⟨rfl, hb1'⟩
    · have db : decide (1000 < b.length) = false := by simp; omega
      have dc : decide (1000 < c.length) = true := by simp; omega
      have dc' : decide ((1000 : Int) < (c.length : Int)) = true := by simp; omega
      clear k
      go_enter Try.func4, Try.ntmps4
      go_wp2_with fail
      refine (awake04_any _).mono ?_
      rintro e w1 ⟨rfl, hb1'⟩
      go_wp2
      go_ret
      exact ⟨rfl, hb1'⟩
theorem digestJoins_walk (va : Value) (a : List UInt8) (vb : Value) (b : List UInt8) (vc : Value) (c : List UInt8) (w : World) (ha : SB w va a) (hb : SB w vb b) (hc : SB w vc c) :
    Calls Try.prog 4 #[va, vb, vc] w fun e w' => e = .returned (.bool true) ∧ Below w.heap.size w w' := by
  by_cases k : 1000 < a.length ∨ 1000 < b.length ∨ 1000 < c.length
  · exact joins_many va vb vc a b c w ha hb hc k
  · exact joins_few va vb vc a b c w ha hb hc (by omega) (by omega) (by omega)
end Go.Proofs.Ytkipnhhdlohnfaa

/- Exchange, plain; the reference's Exchange. -/
import Derived.RangeFuncNested
import Derived.RangeFuncBound
import Derived.RangeFuncCalls
import Derived.RangeFuncLeaves
import Derived.Shelf.Abstract
import Derived.Shelf.RegionOpen
import Derived.WalkKit
import Derived.OwnWalkIn
import Derived.TacticsInMore
import Derived.LoopNIn
import Derived.LoopIn
import Derived.Outline
import Derived.Lib.Hide
import Derived.Lib.SliceRun
import Derived.IntWalk
import Derived.WalkLawsBesides
import Derived.WalkSpells
import Derived.Laws.BitsAllLaws
import Derived.Lib.ConvBytes
import Derived.Maps.AppendAt
import Derived.Lib.AppendStr
import Derived.Lib.SlBytesConst
import Derived.Laws.AppendOwnNone
import Derived.Laws.OwnMore
import Derived.Laws.BytesArg
import Derived.Deep.RegionHeld3
import Derived.BigQuiet
import Derived.Deep.RegionLaw
import Derived.Deep.QuietTactic
import Derived.Lib.OthersKept
import Derived.Test.YtlgodokgebjjaaaProg
import Derived.Deep.DeepFit
import Derived.Test.YtlgodokgebjjaaaClE
import Derived.Test.YtlgodokgebjjaaaPtI
set_option linter.unusedVariables false
set_option linter.unusedSimpArgs false
namespace Go.Proofs.Ytlgodokgebjjaaa
open Go Go.RowKit Go.Shelf

def ehloL (h : List UInt8) : List UInt8 := [69, 72, 76, 79, 32] ++ h ++ [13, 10]
def mailL (f : List UInt8) : List UInt8 := [77, 65, 73, 76, 32, 70, 82, 79, 77, 58, 60] ++ f ++ [62] ++ [13, 10]
def rcptL (r : List UInt8) : List UInt8 := [82, 67, 80, 84, 32, 84, 79, 58, 60] ++ r ++ [62] ++ [13, 10]
def dataL : List UInt8 := [68, 65, 84, 65, 13, 10]
/-- whether there is an exchange -/
def okE (h f r : List UInt8) : Bool := domB h && (f.isEmpty || mailB f) && mailB r
def stepsL (h f r b : List UInt8) : List Step := [⟨ehloL h, 220, 220⟩, ⟨mailL f, 250, 250⟩, ⟨rcptL r, 250, 250⟩, ⟨dataL, 250, 251⟩, ⟨stuffL b, 354, 354⟩, ⟨quitL, 250, 250⟩]
/-- **the exchange** -/
def exL (h f r b m : List UInt8) : List UInt8 × Nat := if okE h f r then exc (stepsL h f r b) (rps m) [] else ([], 0)
theorem exc_nil (st : List Step) (out : List UInt8) : exc st [] out = (out, 0) := by cases st <;> rfl
theorem stuffL_len (l : List UInt8) : (stuffL l).length ≤ 2 * l.length + 7 := by
  have h1 := preS_all l
  have h2 := preS_len (closeL l) (lns (closeL l)).length
  have h3 := closeL_len l
  have := congrArg List.length h1
  rw [List.length_append] at this
  simp at this
  omega
theorem bl_append (a b : ByteArray) : bl (a ++ b) = bl a ++ bl b := by
  unfold bl; simp [ByteArray.data_append]
theorem size_app (a b : ByteArray) : (a ++ b).size = a.size + b.size := ByteArray.size_append
theorem rp_none_rps (l : List UInt8) (h : (rp l).isSome = false) : rps l = [] := rps_none l (by cases h2 : rp l with | none => rfl | some p => rw [h2] at h; cases h)
theorem rp_some_rps (l : List UInt8) (h : (rp l).isSome = true) : rps l = rpC (rp l) :: rps (l.drop (rpU (rp l))) ∧ 200 ≤ rpC (rp l) ∧ rpC (rp l) ≤ 599 := by
  cases h2 : rp l with
  | none => rw [h2] at h; cases h
  | some p => exact ⟨rps_some l p.1 p.2 h2, (rp_code l p.1 p.2 h2).1⟩
set_option maxRecDepth 100000 in
set_option maxHeartbeats 400000 in
theorem qDomain_any (s : ByteArray) (hm : s.size ≤ maxLen) (w : World) : Calls Try.prog 45 #[.string s] w fun e w' => e = .returned (.bool (domB (bl s))) ∧ Below w.heap.size w w' := rdomain_any s hm w
set_option maxRecDepth 100000 in
set_option maxHeartbeats 4000000 in
theorem qExchange_bad (h f r : ByteArray) (vb vm : Value) (b m : List UInt8) (w : World) (hh : h.size ≤ 1000) (hf : f.size ≤ 1000) (hr : r.size ≤ 1000) (hb : SB w vb b) (hm : SB w vm m) (hk : okE (bl h) (bl f) (bl r) = false) :
    Calls Try.prog 16 #[.string h, .string f, .string r, vb, vm] w fun e w' => e = .returned (.tuple #[.slice none 0 0, .int .i64 0]) ∧ Below w.heap.size w w' := by
  obtain ⟨Ab, cb, rfl, -, -, -⟩ := hb.form
  obtain ⟨Am, cm, rfl, -, -, -⟩ := hm.form
  obtain ⟨nb, hnb⟩ : ∃ n, b.length = n := ⟨_, rfl⟩
  obtain ⟨nm, hnm⟩ : ∃ n, m.length = n := ⟨_, rfl⟩
  rw [hnb, hnm]
  have hd := fun w => rdomain_any h (by unfold maxLen; omega) w
  have hf2 := fun w => rmailbox_any f (by unfold maxLen; omega) w
  have hr2 := fun w => rmailbox_any r (by unfold maxLen; omega) w
  have he : (f.toList == []) = (bl f).isEmpty := by rw [toList_bl]; cases bl f <;> rfl
  have he2 : f.toList.isEmpty = (bl f).isEmpty := by rw [toList_bl]
  unfold okE at hk
  obtain ⟨q0, h0⟩ : ∃ q, domB (bl h) = q := ⟨_, rfl⟩
  obtain ⟨q1, h1⟩ : ∃ q, (bl f).isEmpty = q := ⟨_, rfl⟩
  obtain ⟨q2, h2⟩ : ∃ q, mailB (bl f) = q := ⟨_, rfl⟩
  obtain ⟨q3, h3⟩ : ∃ q, mailB (bl r) = q := ⟨_, rfl⟩
  simp only [h0] at hd hk
  simp only [h1] at he he2 hk
  simp only [h2] at hf2 hk
  simp only [h3] at hr2 hk
  have HD := Lib.hid hd
  have HF := Lib.hid hf2
  have HR := Lib.hid hr2
  clear hd hf2 hr2 hb hm hnb hnm h0 h1 h2 h3
  cases q0 with
  | false =>
    clear hk
    go_enter Try.func16, Try.ntmps16
    go_wp2_with fail
    refine (HD.out _).mono ?_
    rintro e w1 ⟨rfl, b1⟩
    go_wp2
    go_ret2
    exact ⟨rfl, b1⟩
  | true =>
    cases q1 with
    | true =>
      obtain rfl : q3 = false := by simpa using hk
      clear hk
      go_enter Try.func16, Try.ntmps16
      go_wp2_with fail
      refine (HD.out _).mono ?_
      rintro e w1 ⟨rfl, b1⟩
      go_wp2_with fail
      refine (HR.out _).mono ?_
      rintro e w2 ⟨rfl, b2⟩
      have c2 := b1.trans (b2.mono b1.size)
      clear b1 b2
      go_wp2
      go_ret2
      exact ⟨rfl, c2⟩
    | false =>
      cases q2 with
      | false =>
        clear hk
        go_enter Try.func16, Try.ntmps16
        go_wp2_with fail
        refine (HD.out _).mono ?_
        rintro e w1 ⟨rfl, b1⟩
        go_wp2_with fail
        refine (HF.out _).mono ?_
        rintro e w2 ⟨rfl, b2⟩
        have c2 := b1.trans (b2.mono b1.size)
        clear b1 b2
        go_wp2
        go_ret2
        exact ⟨rfl, c2⟩
      | true =>
        obtain rfl : q3 = false := by simpa using hk
        clear hk
        go_enter Try.func16, Try.ntmps16
        go_wp2_with fail
        refine (HD.out _).mono ?_
        rintro e w1 ⟨rfl, b1⟩
        go_wp2_with fail
        refine (HF.out _).mono ?_
        rintro e w2 ⟨rfl, b2⟩
        go_wp2_with fail
        refine (HR.out _).mono ?_
        rintro e w3 ⟨rfl, b3⟩
        have c2 := b1.trans (b2.mono b1.size)
        have c3 := c2.trans (b3.mono c2.size)
        clear b1 b2 b3 c2
        go_wp2
        go_ret2
        exact ⟨rfl, c3⟩
set_option maxRecDepth 100000 in
set_option maxHeartbeats 16000000 in
theorem qExchange_good (h f r : ByteArray) (vb vm : Value) (b m : List UInt8) (w : World) (hh : h.size ≤ 1000) (hf : f.size ≤ 1000) (hr : r.size ≤ 1000) (hbl : b.length ≤ 100000) (hml : m.length ≤ 1000000) (hb : SB w vb b) (hm : SB w vm m) (hk : okE (bl h) (bl f) (bl r) = true) :
    Calls Try.prog 16 #[.string h, .string f, .string r, vb, vm] w fun e w' => ∃ u, e = .returned (.tuple #[u, .int .i64 ((exL (bl h) (bl f) (bl r) b m).2 : Int)]) ∧ OB w' w.heap.size u (exL (bl h) (bl f) (bl r) b m).1 ∧ Below w.heap.size w w' := by
  obtain ⟨Ab, cb, rfl, -, -, -⟩ := hb.form
  obtain ⟨Am, cm, rfl, -, -, -⟩ := hm.form
  obtain ⟨nb, hnb⟩ : ∃ n, b.length = n := ⟨_, rfl⟩
  have hd := fun w => rdomain_any h (by unfold maxLen; omega) w
  have hf2 := fun w => rmailbox_any f (by unfold maxLen; omega) w
  have hr2 := fun w => rmailbox_any r (by unfold maxLen; omega) w
  have he : (f.toList == []) = (bl f).isEmpty := by rw [toList_bl]; cases bl f <;> rfl
  have he2 : f.toList.isEmpty = (bl f).isEmpty := by rw [toList_bl]
  have hR0 : exL (bl h) (bl f) (bl r) b m = exc (stepsL (bl h) (bl f) (bl r) b) (rps m) [] := by unfold exL; rw [if_pos hk]
  unfold okE at hk
  obtain ⟨q0, h0⟩ : ∃ q, domB (bl h) = q := ⟨_, rfl⟩
  obtain ⟨q1, h1⟩ : ∃ q, (bl f).isEmpty = q := ⟨_, rfl⟩
  obtain ⟨q2, h2⟩ : ∃ q, mailB (bl f) = q := ⟨_, rfl⟩
  obtain ⟨q3, h3⟩ : ∃ q, mailB (bl r) = q := ⟨_, rfl⟩
  simp only [h0] at hd hk
  simp only [h1] at he he2 hk
  simp only [h2] at hf2 hk
  simp only [h3] at hr2 hk
  have z0 : (⟨#[69, 72, 76, 79, 32]⟩ : ByteArray).size = 5 := rfl
  have z1 : (⟨#[77, 65, 73, 76, 32, 70, 82, 79, 77, 58, 60]⟩ : ByteArray).size = 11 := rfl
  have z2 : (⟨#[82, 67, 80, 84, 32, 84, 79, 58, 60]⟩ : ByteArray).size = 9 := rfl
  have z3 : (⟨#[62]⟩ : ByteArray).size = 1 := rfl
  have z4 : (⟨#[13, 10]⟩ : ByteArray).size = 2 := rfl
  have z5 : (⟨#[68, 65, 84, 65]⟩ : ByteArray).size = 4 := rfl
  have z6 : (⟨#[81, 85, 73, 84]⟩ : ByteArray).size = 4 := rfl
  have hst := hR0
  obtain ⟨E0, hE0⟩ : ∃ e, ehloL (bl h) = e := ⟨_, rfl⟩
  obtain ⟨E1, hE1⟩ : ∃ e, mailL (bl f) = e := ⟨_, rfl⟩
  obtain ⟨E2, hE2⟩ : ∃ e, rcptL (bl r) = e := ⟨_, rfl⟩
  obtain ⟨E4, hE4⟩ : ∃ e, stuffL b = e := ⟨_, rfl⟩
  unfold stepsL at hst
  rw [hE0, hE1, hE2, hE4] at hst
  obtain ⟨R, hR⟩ : ∃ R, exL (bl h) (bl f) (bl r) b m = R := ⟨_, rfl⟩
  rw [hR] at hst ⊢
  obtain ⟨S0, hS0⟩ : ∃ S : ByteArray, ⟨#[69, 72, 76, 79, 32]⟩ ++ h = S := ⟨_, rfl⟩
  obtain ⟨S1', hS1'⟩ : ∃ S : ByteArray, ⟨#[77, 65, 73, 76, 32, 70, 82, 79, 77, 58, 60]⟩ ++ f = S := ⟨_, rfl⟩
  obtain ⟨S1, hS1⟩ : ∃ S : ByteArray, S1' ++ ⟨#[62]⟩ = S := ⟨_, rfl⟩
  obtain ⟨S2', hS2'⟩ : ∃ S : ByteArray, ⟨#[82, 67, 80, 84, 32, 84, 79, 58, 60]⟩ ++ r = S := ⟨_, rfl⟩
  obtain ⟨S2, hS2⟩ : ∃ S : ByteArray, S2' ++ ⟨#[62]⟩ = S := ⟨_, rfl⟩
  have y0 : S0.size ≤ 1005 := by rw [← hS0, size_app, z0]; omega
  have y1' : S1'.size ≤ 1011 := by rw [← hS1', size_app, z1]; omega
  have y1 : S1.size ≤ 1012 := by rw [← hS1, size_app, z3]; omega
  have y2' : S2'.size ≤ 1009 := by rw [← hS2', size_app, z2]; omega
  have y2 : S2.size ≤ 1010 := by rw [← hS2, size_app, z3]; omega
  have ka0 := fun w => run_string_add_sum (P := Try.prog) w ⟨#[69, 72, 76, 79, 32]⟩ h (by omega)
  have ka1 := fun w => run_string_add_sum (P := Try.prog) w ⟨#[77, 65, 73, 76, 32, 70, 82, 79, 77, 58, 60]⟩ f (by omega)
  have ka2 := fun w => run_string_add_sum (P := Try.prog) w S1' ⟨#[62]⟩ (by omega)
  have ka3 := fun w => run_string_add_sum (P := Try.prog) w ⟨#[82, 67, 80, 84, 32, 84, 79, 58, 60]⟩ r (by omega)
  have ka4 := fun w => run_string_add_sum (P := Try.prog) w S2' ⟨#[62]⟩ (by omega)
  have kb0 := fun w => run_string_add_sum (P := Try.prog) w S0 ⟨#[13, 10]⟩ (by omega)
  have kb1 := fun w => run_string_add_sum (P := Try.prog) w S1 ⟨#[13, 10]⟩ (by omega)
  have kb2 := fun w => run_string_add_sum (P := Try.prog) w S2 ⟨#[13, 10]⟩ (by omega)
  have kb3 := fun w => run_string_add_sum (P := Try.prog) w ⟨#[68, 65, 84, 65]⟩ ⟨#[13, 10]⟩ (by omega)
  have kb5 := fun w => run_string_add_sum (P := Try.prog) w ⟨#[81, 85, 73, 84]⟩ ⟨#[13, 10]⟩ (by omega)
  have e0 : bl (S0 ++ ⟨#[13, 10]⟩) = E0 := by rw [← hS0, ← hE0, bl_append, bl_append]; rfl
  have e1 : bl (S1 ++ ⟨#[13, 10]⟩) = E1 := by rw [← hS1, ← hS1', ← hE1, bl_append, bl_append, bl_append]; rfl
  have e2 : bl (S2 ++ ⟨#[13, 10]⟩) = E2 := by rw [← hS2, ← hS2', ← hE2, bl_append, bl_append, bl_append]; rfl
  have l0 : E0.length ≤ 10000 := by rw [← e0, bl_len, size_app]; omega
  have l1 : E1.length ≤ 10000 := by rw [← e1, bl_len, size_app]; omega
  have l2 : E2.length ≤ 10000 := by rw [← e2, bl_len, size_app]; omega
  have l4 : E4.length ≤ 300000 := by rw [← hE4]; have := stuffL_len b; omega
  obtain ⟨T0, hT0⟩ : ∃ S : ByteArray, S0 ++ ⟨#[13, 10]⟩ = S := ⟨_, rfl⟩
  obtain ⟨T1, hT1⟩ : ∃ S : ByteArray, S1 ++ ⟨#[13, 10]⟩ = S := ⟨_, rfl⟩
  obtain ⟨T2, hT2⟩ : ∃ S : ByteArray, S2 ++ ⟨#[13, 10]⟩ = S := ⟨_, rfl⟩
  obtain ⟨T3, hT3⟩ : ∃ S : ByteArray, (⟨#[68, 65, 84, 65]⟩ : ByteArray) ++ ⟨#[13, 10]⟩ = S := ⟨_, rfl⟩
  obtain ⟨T5, hT5⟩ : ∃ S : ByteArray, (⟨#[81, 85, 73, 84]⟩ : ByteArray) ++ ⟨#[13, 10]⟩ = S := ⟨_, rfl⟩
  have e3 : bl T3 = dataL := by rw [← hT3]; rfl
  have e5 : bl T5 = quitL := by rw [← hT5]; rfl
  rw [hT0] at e0 kb0
  rw [hT1] at e1 kb1
  rw [hT2] at e2 kb2
  rw [hT3] at kb3
  rw [hT5] at kb5
  rw [hS0] at ka0
  rw [hS1'] at ka1
  rw [hS1] at ka2
  rw [hS2'] at ka3
  rw [hS2] at ka4
  obtain ⟨st, hst0⟩ : ∃ st : List Step, [⟨E0, 220, 220⟩, ⟨E1, 250, 250⟩, ⟨E2, 250, 250⟩, ⟨dataL, 250, 251⟩, ⟨E4, 354, 354⟩, ⟨quitL, 250, 250⟩] = st := ⟨_, rfl⟩
  rw [hst0] at hst
  have D0 : Hid (st.drop 0 = ⟨E0, 220, 220⟩ :: st.drop 1) := by rw [← hst0]; rfl
  have D1 : Hid (st.drop 1 = ⟨E1, 250, 250⟩ :: st.drop 2) := by rw [← hst0]; rfl
  have D2 : Hid (st.drop 2 = ⟨E2, 250, 250⟩ :: st.drop 3) := by rw [← hst0]; rfl
  have D3 : Hid (st.drop 3 = ⟨dataL, 250, 251⟩ :: st.drop 4) := by rw [← hst0]; rfl
  have D4 : Hid (st.drop 4 = ⟨E4, 354, 354⟩ :: st.drop 5) := by rw [← hst0]; rfl
  have D5 : Hid (st.drop 5 = [⟨quitL, 250, 250⟩]) := by rw [← hst0]; rfl
  have HST : Hid (exc (st.drop 0) (rps m) [] = R) := hst.symm
  have M0 := Lib.hid e0
  have M1 := Lib.hid e1
  have M2 := Lib.hid e2
  have M3 := Lib.hid e3
  have M5 := Lib.hid e5
  have HNB := Lib.hid hnb
  have HE4 := Lib.hid hE4
  rw [hnb] at hb hbl ⊢
  have HD := Lib.hid hd
  have HF := Lib.hid hf2
  have HR := Lib.hid hr2
  have HB := Lib.hid hb
  have HM := Lib.hid hm
  obtain rfl : q0 = true := by revert hk; cases q0 <;> simp
  obtain rfl : q3 = true := by revert hk; cases q3 <;> simp
  clear hd hf2 hr2 hb hm hnb h0 h1 h2 h3 hR0 hst hst0 hE0 hE1 hE2 hE4 hR hS0 hS1 hS1' hS2 hS2' hT0 hT1 hT2 hT3 hT5 e0 e1 e2 e3 e5 y0 y1 y2 y1' y2' z0 z1 z2 z3 z4 z5 z6
  cases q1 with
  | true =>
    clear hk
    go_enter Try.func16, Try.ntmps16
    go_wp2_with fail
    refine (HD.out _).mono ?_
    rintro e w1 ⟨rfl, b1⟩
    have c2 := b1
    clear b1
    go_wp2_with fail
    refine (HR.out _).mono ?_
    rintro e w4 ⟨rfl, b4⟩
    have c4 := c2.trans (b4.mono c2.size)
    clear b4 c2
    go_wp2_with fail
    obtain ⟨G, hG⟩ : ∃ G, w4.heap.size = G := ⟨_, rfl⟩
    have hrow := Row.new w4 #[.string S0, .string S1, .string S2, .string ⟨#[68, 65, 84, 65]⟩, .string ⟨#[]⟩, .string ⟨#[81, 85, 73, 84]⟩] 9
    obtain ⟨W0, hW0⟩ : ∃ W0, w4.alloc (.cells #[.string S0, .string S1, .string S2, .string ⟨#[68, 65, 84, 65]⟩, .string ⟨#[]⟩, .string ⟨#[81, 85, 73, 84]⟩] 9) = W0 := ⟨_, rfl⟩
    have hbW : Below w.heap.size w W0 := by rw [← hW0]; exact c4.alloc c4.size _
    have hGW : G < W0.heap.size := by rw [← hW0, alloc_size, hG]; omega
    rw [hW0, hG] at hrow
    have HW0 := Lib.hid hW0
    have HROW := Lib.hid hrow
    have HBW := Lib.hid hbW
    have HSM : Hid (SB W0 (.slice Am m.length cm) m) := HM.out.below hbW
    obtain ⟨B0, hB0⟩ : ∃ B, W0.heap.size = B := ⟨_, rfl⟩
    have HGB : Hid (G < B0) := by show G < B0; omega
    have HMI : Hid (Mine B0 W0 W0) := by show Mine B0 W0 W0; rw [← hB0]; exact Mine.refl W0
    have HBB : Hid (w.heap.size ≤ B0) := by show _ ≤ _; rw [← hB0]; exact hbW.size
    have hk0 : m.length ≤ 1000000 := hml
    obtain ⟨L, hL⟩ : ∃ L, m.length = L := ⟨_, rfl⟩
    have HLM := Lib.hid hL
    rw [hL] at HSM hk0
    first | rw [hL] | skip
    clear c4 hrow hW0 hbW hGW hL
    go_wp2
    go_loopw [4, 12, 46] (fun rem out x wr => ∃ (k : Nat) (cur outL : List UInt8), (x = .int .i64 (k : Int) ∧ k ≤ 6 ∧ cur.length ≤ 1000000 ∧ outL.length ≤ k * 300000) ∧ Hid (k < 6 → exc (st.drop k) (rps cur) outL = R) ∧ Hid (k = 6 → R = (outL, 250)) ∧ Hid (SB W0 rem cur) ∧ Hid (OB wr B0 out outL) ∧ Hid (Mine B0 W0 wr)) (fun _ _ x _ => 6 - (intOf x).toNat)
    case atStart => exact ⟨0, m, [], ⟨rfl, by omega, hml, by simp⟩, fun _ => HST.out, fun h => absurd h (by omega), by (first | (rw [hG]) | skip); rw [← HLM.out] at HSM; first | exact HSM | (rw [HLM.out]; exact HSM) | (rw [← HLM.out]; exact HSM), World.ownsRow_nil _ _ _ _, by first | exact HMI | (rw [HW0.out]; exact HMI)⟩
    case round =>
      clear HST HSM HMI
      obtain ⟨k, cur, outL, ⟨rfl, hk6, hcl, hol⟩, hex, hex6, hsb, hown, hmi⟩ := hrel
      obtain ⟨Ar, cr, rfl, -, -, -⟩ := hsb.out.form
      obtain ⟨Ao, co, rfl, -, -, -⟩ := hown.out.reads.form
      have hrow := HROW.out.below hmi.out.bel HGB.out
      have HROW1 := Lib.hid hrow
      have hqr := qReply_any _ cur wr (by omega) (hsb.out.below (by rw [hB0]; exact hmi.out.bel))
      have hle := rpU_le cur
      have hno := rp_none_rps cur
      have hso := rp_some_rps cur
      obtain ⟨C, hC⟩ : ∃ C, rpC (rp cur) = C := ⟨_, rfl⟩
      obtain ⟨U, hU⟩ : ∃ C, rpU (rp cur) = C := ⟨_, rfl⟩
      obtain ⟨is, his⟩ : ∃ C, (rp cur).isSome = C := ⟨_, rfl⟩
      rw [hC, hU, his] at hqr
      rw [hU] at hle
      rw [his] at hno hso
      rw [hC, hU] at hso
      have hdl : (cur.drop U).length ≤ 1000000 := by rw [List.length_drop]; omega
      obtain ⟨cd, hcd⟩ : ∃ q, cur.drop U = q := ⟨_, rfl⟩
      rw [hcd] at hqr hso hdl
      obtain ⟨n, hn⟩ : ∃ n, cur.length = n := ⟨_, rfl⟩
      obtain ⟨no, hno'⟩ : ∃ n, outL.length = n := ⟨_, rfl⟩
      rw [hn] at hqr
      rw [hno'] at hol hown
      have HOL := Lib.hid hno'
      have HQR := Lib.hid hqr
      have HNO := Lib.hid hno
      have HSO := Lib.hid hso
      have HDL := Lib.hid hdl
      have HEX := Lib.hid hex
      rw [hn, hno']
      have hsb0 := hsb.out
      rw [hn] at hsb0
      have HSB0 := Lib.hid hsb0
      clear hqr hno hso hdl hcd hC hU his hle hcl hrow hsb hn hno' hex hsb0
      rcases (by omega : k = 0 ∨ k = 1 ∨ k = 2 ∨ k = 3 ∨ k = 4 ∨ k = 5 ∨ k = 6) with rfl | rfl | rfl | rfl | rfl | rfl | rfl
      · have HE : Hid (exc (st.drop 0) (rps cur) outL = R) := HEX.out (by omega)
        have hck : wr.cell? ⟨G, 0, none⟩ = some (.string S0) := HROW1.out.cell 0
        clear HEX hex6 HROW1
        cases is with
        | false =>
          have hres : R = (outL, 0) := by have := HE.out; rw [HNO.out rfl, exc_nil] at this; exact this.symm
          subst hres
          clear HE
          go_wp2_with fail
          refine HQR.out.mono ?_
          rintro e w5 ⟨u5, rfl, hsu, hb5⟩
          have hsu0 := hsu _ HSB0.out
          obtain ⟨A5, c5, rfl, -, -, -⟩ := hsu0.form
          have HS5 := Lib.hid hsu0
          have HO5 := Lib.hid (hown.out.below hb5)
          have HM5 := Lib.hid (hmi.out.call hb5)
          clear hsu hsu0 hb5
          go_wp2
          go_ret2
          exact ⟨_, rfl, OB.mono (HO5.out) HBB.out, HBW.out.trans ((HM5.out).bel.mono HBB.out)⟩
        | true =>
          obtain ⟨hrps, hc2, hc5⟩ := HSO.out rfl
          have hne := HE.out
          rw [hrps] at hne
          have HNE := Lib.hid hne
          clear HE hrps hne
          by_cases hC : C = 220
          · obtain ⟨bb, hbb⟩ : ∃ bb, ((C : Int) == 250) = bb := ⟨_, rfl⟩
            obtain ⟨bb2, hbb2⟩ : ∃ bb, (C == 250) = bb := ⟨_, rfl⟩
            have g220 : ((C : Int) == 220) = true := by simp; omega
            have f220 : (C == 220) = true := by simp; omega
            have hnext : Hid (1 < 6 → exc (st.drop 1) (rps (cd)) (outL ++ E0) = R) := fun _ => by have := HNE.out; rw [D0.out, D1.out, exc_ok _ _ _ _ _ _ (by simp; omega), ← D1.out] at this; exact this
            have hlast : Hid (1 = 6 → R = (outL ++ E0, 250)) := fun h => absurd h (by decide)
            clear hC HNE
            go_wp2_with fail
            refine HQR.out.mono ?_
            rintro e w5 ⟨u5, rfl, hsu, hb5⟩
            have hsu0 := hsu _ HSB0.out
            obtain ⟨A5, c5, rfl, -, -, -⟩ := hsu0.form
            have HS5 := Lib.hid hsu0
            have HO5 := Lib.hid (hown.out.below hb5)
            have HM5 := Lib.hid (hmi.out.call hb5)
            clear hsu hsu0 hb5
            go_wp2_with (at_builtin; refine wpB_appendS rfl _ _ rfl B0 _ outL E0 T0 rfl HO5.out rfl M0.out (by have := HOL.out; omega) HM5.out.le ?_)
            intro v7 w7 hown7 _ hb7
            obtain ⟨out2, hout2⟩ : ∃ q, outL ++ E0 = q := ⟨_, rfl⟩
            have hl2 := congrArg List.length hout2
            rw [List.length_append, HOL.out] at hl2
            rw [hout2] at hown7 hnext hlast
            obtain ⟨A7, c7, rfl, -, -, -⟩ := hown7.reads.form
            have HM7 := Lib.hid (HM5.out.callN hb7 (Nat.le_refl B0))
            have HO7 := Lib.hid hown7
            have HL2 := Lib.hid hl2
            clear hown7 hb7 hout2 hl2
            go_wp2
            go_roundw
            case rel => exact ⟨1, cd, out2, ⟨by first | rfl | go_num, by omega, HDL.out, by have := HL2.out; omega⟩, hnext, (fun h => hlast.out (by first | exact h | trivial)), HS5.out, HO7.out, HM7.out⟩
            case measure => simp [intOf]
          · by_cases h4 : C < 400
            · obtain ⟨bb, hbb⟩ : ∃ bb, ((C : Int) == 250) = bb := ⟨_, rfl⟩
              obtain ⟨bb2, hbb2⟩ : ∃ bb, (C == 250) = bb := ⟨_, rfl⟩
              have g220 : ((C : Int) == 220) = false := by simp; omega
              have f220 : (C == 220) = false := by simp; omega
              have hres : R = (outL ++ quitL, 0) := by have := HNE.out; rw [D0.out, exc_bad _ _ _ _ _ (by simp; omega), if_pos h4] at this; exact this.symm
              have d4 : decide (C < 400) = true := decide_eq_true h4
              have d4' : decide ((C : Int) < 400) = true := decide_eq_true (by omega)
              subst hres
              clear hC HNE h4
              go_wp2_with fail
              refine HQR.out.mono ?_
              rintro e w5 ⟨u5, rfl, hsu, hb5⟩
              have hsu0 := hsu _ HSB0.out
              obtain ⟨A5, c5, rfl, -, -, -⟩ := hsu0.form
              have HS5 := Lib.hid hsu0
              have HO5 := Lib.hid (hown.out.below hb5)
              have HM5 := Lib.hid (hmi.out.call hb5)
              clear hsu hsu0 hb5
              go_wp2_with (at_builtin; refine wpB_appendS rfl _ _ rfl B0 _ outL quitL ⟨#[81, 85, 73, 84, 13, 10]⟩ rfl HO5.out rfl rfl (by have := HOL.out; have : quitL.length = 6 := rfl; omega) HM5.out.le ?_)
              intro v7 w7 hown7 _ hb7
              have HM7 := Lib.hid (HM5.out.callN hb7 (Nat.le_refl B0))
              have HO7 := Lib.hid hown7
              clear hown7 hb7
              go_wp2
              go_ret2
              exact ⟨_, rfl, OB.mono (HO7.out) HBB.out, HBW.out.trans ((HM7.out).bel.mono HBB.out)⟩
            · obtain ⟨bb, hbb⟩ : ∃ bb, ((C : Int) == 250) = bb := ⟨_, rfl⟩
              obtain ⟨bb2, hbb2⟩ : ∃ bb, (C == 250) = bb := ⟨_, rfl⟩
              have g220 : ((C : Int) == 220) = false := by simp; omega
              have f220 : (C == 220) = false := by simp; omega
              have hres : R = (outL ++ quitL, C) := by have := HNE.out; rw [D0.out, exc_bad _ _ _ _ _ (by simp; omega), if_neg h4] at this; exact this.symm
              have d4 : decide (C < 400) = false := decide_eq_false h4
              have d4' : decide ((C : Int) < 400) = false := decide_eq_false (by omega)
              subst hres
              clear hC HNE h4
              go_wp2_with fail
              refine HQR.out.mono ?_
              rintro e w5 ⟨u5, rfl, hsu, hb5⟩
              have hsu0 := hsu _ HSB0.out
              obtain ⟨A5, c5, rfl, -, -, -⟩ := hsu0.form
              have HS5 := Lib.hid hsu0
              have HO5 := Lib.hid (hown.out.below hb5)
              have HM5 := Lib.hid (hmi.out.call hb5)
              clear hsu hsu0 hb5
              go_wp2_with (at_builtin; refine wpB_appendS rfl _ _ rfl B0 _ outL quitL ⟨#[81, 85, 73, 84, 13, 10]⟩ rfl HO5.out rfl rfl (by have := HOL.out; have : quitL.length = 6 := rfl; omega) HM5.out.le ?_)
              intro v7 w7 hown7 _ hb7
              have HM7 := Lib.hid (HM5.out.callN hb7 (Nat.le_refl B0))
              have HO7 := Lib.hid hown7
              clear hown7 hb7
              go_wp2
              go_ret2
              exact ⟨_, rfl, OB.mono (HO7.out) HBB.out, HBW.out.trans ((HM7.out).bel.mono HBB.out)⟩
      · have HE : Hid (exc (st.drop 1) (rps cur) outL = R) := HEX.out (by omega)
        have hck : wr.cell? ⟨G, 1, none⟩ = some (.string S1) := HROW1.out.cell 1
        clear HEX hex6 HROW1
        cases is with
        | false =>
          have hres : R = (outL, 0) := by have := HE.out; rw [HNO.out rfl, exc_nil] at this; exact this.symm
          subst hres
          clear HE
          go_wp2_with fail
          refine HQR.out.mono ?_
          rintro e w5 ⟨u5, rfl, hsu, hb5⟩
          have hsu0 := hsu _ HSB0.out
          obtain ⟨A5, c5, rfl, -, -, -⟩ := hsu0.form
          have HS5 := Lib.hid hsu0
          have HO5 := Lib.hid (hown.out.below hb5)
          have HM5 := Lib.hid (hmi.out.call hb5)
          clear hsu hsu0 hb5
          go_wp2
          go_ret2
          exact ⟨_, rfl, OB.mono (HO5.out) HBB.out, HBW.out.trans ((HM5.out).bel.mono HBB.out)⟩
        | true =>
          obtain ⟨hrps, hc2, hc5⟩ := HSO.out rfl
          have hne := HE.out
          rw [hrps] at hne
          have HNE := Lib.hid hne
          clear HE hrps hne
          by_cases hC : C = 250
          · have g250 : ((C : Int) == 250) = true := by simp; omega
            have f250 : (C == 250) = true := by simp; omega
            have hnext : Hid (2 < 6 → exc (st.drop 2) (rps (cd)) (outL ++ E1) = R) := fun _ => by have := HNE.out; rw [D1.out, D2.out, exc_ok _ _ _ _ _ _ (by simp; omega), ← D2.out] at this; exact this
            have hlast : Hid (2 = 6 → R = (outL ++ E1, 250)) := fun h => absurd h (by decide)
            clear hC HNE
            go_wp2_with fail
            refine HQR.out.mono ?_
            rintro e w5 ⟨u5, rfl, hsu, hb5⟩
            have hsu0 := hsu _ HSB0.out
            obtain ⟨A5, c5, rfl, -, -, -⟩ := hsu0.form
            have HS5 := Lib.hid hsu0
            have HO5 := Lib.hid (hown.out.below hb5)
            have HM5 := Lib.hid (hmi.out.call hb5)
            clear hsu hsu0 hb5
            go_wp2_with (at_builtin; refine wpB_appendS rfl _ _ rfl B0 _ outL E1 T1 rfl HO5.out rfl M1.out (by have := HOL.out; omega) HM5.out.le ?_)
            intro v7 w7 hown7 _ hb7
            obtain ⟨out2, hout2⟩ : ∃ q, outL ++ E1 = q := ⟨_, rfl⟩
            have hl2 := congrArg List.length hout2
            rw [List.length_append, HOL.out] at hl2
            rw [hout2] at hown7 hnext hlast
            obtain ⟨A7, c7, rfl, -, -, -⟩ := hown7.reads.form
            have HM7 := Lib.hid (HM5.out.callN hb7 (Nat.le_refl B0))
            have HO7 := Lib.hid hown7
            have HL2 := Lib.hid hl2
            clear hown7 hb7 hout2 hl2
            go_wp2
            go_roundw
            case rel => exact ⟨2, cd, out2, ⟨by first | rfl | go_num, by omega, HDL.out, by have := HL2.out; omega⟩, hnext, (fun h => hlast.out (by first | exact h | trivial)), HS5.out, HO7.out, HM7.out⟩
            case measure => simp [intOf]
          · by_cases h4 : C < 400
            · have g250 : ((C : Int) == 250) = false := by simp; omega
              have f250 : (C == 250) = false := by simp; omega
              have hres : R = (outL ++ quitL, 0) := by have := HNE.out; rw [D1.out, exc_bad _ _ _ _ _ (by simp; omega), if_pos h4] at this; exact this.symm
              have d4 : decide (C < 400) = true := decide_eq_true h4
              have d4' : decide ((C : Int) < 400) = true := decide_eq_true (by omega)
              subst hres
              clear hC HNE h4
              go_wp2_with fail
              refine HQR.out.mono ?_
              rintro e w5 ⟨u5, rfl, hsu, hb5⟩
              have hsu0 := hsu _ HSB0.out
              obtain ⟨A5, c5, rfl, -, -, -⟩ := hsu0.form
              have HS5 := Lib.hid hsu0
              have HO5 := Lib.hid (hown.out.below hb5)
              have HM5 := Lib.hid (hmi.out.call hb5)
              clear hsu hsu0 hb5
              go_wp2_with (at_builtin; refine wpB_appendS rfl _ _ rfl B0 _ outL quitL ⟨#[81, 85, 73, 84, 13, 10]⟩ rfl HO5.out rfl rfl (by have := HOL.out; have : quitL.length = 6 := rfl; omega) HM5.out.le ?_)
              intro v7 w7 hown7 _ hb7
              have HM7 := Lib.hid (HM5.out.callN hb7 (Nat.le_refl B0))
              have HO7 := Lib.hid hown7
              clear hown7 hb7
              go_wp2
              go_ret2
              exact ⟨_, rfl, OB.mono (HO7.out) HBB.out, HBW.out.trans ((HM7.out).bel.mono HBB.out)⟩
            · have g250 : ((C : Int) == 250) = false := by simp; omega
              have f250 : (C == 250) = false := by simp; omega
              have hres : R = (outL ++ quitL, C) := by have := HNE.out; rw [D1.out, exc_bad _ _ _ _ _ (by simp; omega), if_neg h4] at this; exact this.symm
              have d4 : decide (C < 400) = false := decide_eq_false h4
              have d4' : decide ((C : Int) < 400) = false := decide_eq_false (by omega)
              subst hres
              clear hC HNE h4
              go_wp2_with fail
              refine HQR.out.mono ?_
              rintro e w5 ⟨u5, rfl, hsu, hb5⟩
              have hsu0 := hsu _ HSB0.out
              obtain ⟨A5, c5, rfl, -, -, -⟩ := hsu0.form
              have HS5 := Lib.hid hsu0
              have HO5 := Lib.hid (hown.out.below hb5)
              have HM5 := Lib.hid (hmi.out.call hb5)
              clear hsu hsu0 hb5
              go_wp2_with (at_builtin; refine wpB_appendS rfl _ _ rfl B0 _ outL quitL ⟨#[81, 85, 73, 84, 13, 10]⟩ rfl HO5.out rfl rfl (by have := HOL.out; have : quitL.length = 6 := rfl; omega) HM5.out.le ?_)
              intro v7 w7 hown7 _ hb7
              have HM7 := Lib.hid (HM5.out.callN hb7 (Nat.le_refl B0))
              have HO7 := Lib.hid hown7
              clear hown7 hb7
              go_wp2
              go_ret2
              exact ⟨_, rfl, OB.mono (HO7.out) HBB.out, HBW.out.trans ((HM7.out).bel.mono HBB.out)⟩
      · have HE : Hid (exc (st.drop 2) (rps cur) outL = R) := HEX.out (by omega)
        have hck : wr.cell? ⟨G, 2, none⟩ = some (.string S2) := HROW1.out.cell 2
        clear HEX hex6 HROW1
        cases is with
        | false =>
          have hres : R = (outL, 0) := by have := HE.out; rw [HNO.out rfl, exc_nil] at this; exact this.symm
          subst hres
          clear HE
          go_wp2_with fail
          refine HQR.out.mono ?_
          rintro e w5 ⟨u5, rfl, hsu, hb5⟩
          have hsu0 := hsu _ HSB0.out
          obtain ⟨A5, c5, rfl, -, -, -⟩ := hsu0.form
          have HS5 := Lib.hid hsu0
          have HO5 := Lib.hid (hown.out.below hb5)
          have HM5 := Lib.hid (hmi.out.call hb5)
          clear hsu hsu0 hb5
          go_wp2
          go_ret2
          exact ⟨_, rfl, OB.mono (HO5.out) HBB.out, HBW.out.trans ((HM5.out).bel.mono HBB.out)⟩
        | true =>
          obtain ⟨hrps, hc2, hc5⟩ := HSO.out rfl
          have hne := HE.out
          rw [hrps] at hne
          have HNE := Lib.hid hne
          clear HE hrps hne
          by_cases hC : C = 250
          · have g250 : ((C : Int) == 250) = true := by simp; omega
            have f250 : (C == 250) = true := by simp; omega
            have hnext : Hid (3 < 6 → exc (st.drop 3) (rps (cd)) (outL ++ E2) = R) := fun _ => by have := HNE.out; rw [D2.out, D3.out, exc_ok _ _ _ _ _ _ (by simp; omega), ← D3.out] at this; exact this
            have hlast : Hid (3 = 6 → R = (outL ++ E2, 250)) := fun h => absurd h (by decide)
            clear hC HNE
            go_wp2_with fail
            refine HQR.out.mono ?_
            rintro e w5 ⟨u5, rfl, hsu, hb5⟩
            have hsu0 := hsu _ HSB0.out
            obtain ⟨A5, c5, rfl, -, -, -⟩ := hsu0.form
            have HS5 := Lib.hid hsu0
            have HO5 := Lib.hid (hown.out.below hb5)
            have HM5 := Lib.hid (hmi.out.call hb5)
            clear hsu hsu0 hb5
            go_wp2_with (at_builtin; refine wpB_appendS rfl _ _ rfl B0 _ outL E2 T2 rfl HO5.out rfl M2.out (by have := HOL.out; omega) HM5.out.le ?_)
            intro v7 w7 hown7 _ hb7
            obtain ⟨out2, hout2⟩ : ∃ q, outL ++ E2 = q := ⟨_, rfl⟩
            have hl2 := congrArg List.length hout2
            rw [List.length_append, HOL.out] at hl2
            rw [hout2] at hown7 hnext hlast
            obtain ⟨A7, c7, rfl, -, -, -⟩ := hown7.reads.form
            have HM7 := Lib.hid (HM5.out.callN hb7 (Nat.le_refl B0))
            have HO7 := Lib.hid hown7
            have HL2 := Lib.hid hl2
            clear hown7 hb7 hout2 hl2
            go_wp2
            go_roundw
            case rel => exact ⟨3, cd, out2, ⟨by first | rfl | go_num, by omega, HDL.out, by have := HL2.out; omega⟩, hnext, (fun h => hlast.out (by first | exact h | trivial)), HS5.out, HO7.out, HM7.out⟩
            case measure => simp [intOf]
          · by_cases h4 : C < 400
            · have g250 : ((C : Int) == 250) = false := by simp; omega
              have f250 : (C == 250) = false := by simp; omega
              have hres : R = (outL ++ quitL, 0) := by have := HNE.out; rw [D2.out, exc_bad _ _ _ _ _ (by simp; omega), if_pos h4] at this; exact this.symm
              have d4 : decide (C < 400) = true := decide_eq_true h4
              have d4' : decide ((C : Int) < 400) = true := decide_eq_true (by omega)
              subst hres
              clear hC HNE h4
              go_wp2_with fail
              refine HQR.out.mono ?_
              rintro e w5 ⟨u5, rfl, hsu, hb5⟩
              have hsu0 := hsu _ HSB0.out
              obtain ⟨A5, c5, rfl, -, -, -⟩ := hsu0.form
              have HS5 := Lib.hid hsu0
              have HO5 := Lib.hid (hown.out.below hb5)
              have HM5 := Lib.hid (hmi.out.call hb5)
              clear hsu hsu0 hb5
              go_wp2_with (at_builtin; refine wpB_appendS rfl _ _ rfl B0 _ outL quitL ⟨#[81, 85, 73, 84, 13, 10]⟩ rfl HO5.out rfl rfl (by have := HOL.out; have : quitL.length = 6 := rfl; omega) HM5.out.le ?_)
              intro v7 w7 hown7 _ hb7
              have HM7 := Lib.hid (HM5.out.callN hb7 (Nat.le_refl B0))
              have HO7 := Lib.hid hown7
              clear hown7 hb7
              go_wp2
              go_ret2
              exact ⟨_, rfl, OB.mono (HO7.out) HBB.out, HBW.out.trans ((HM7.out).bel.mono HBB.out)⟩
            · have g250 : ((C : Int) == 250) = false := by simp; omega
              have f250 : (C == 250) = false := by simp; omega
              have hres : R = (outL ++ quitL, C) := by have := HNE.out; rw [D2.out, exc_bad _ _ _ _ _ (by simp; omega), if_neg h4] at this; exact this.symm
              have d4 : decide (C < 400) = false := decide_eq_false h4
              have d4' : decide ((C : Int) < 400) = false := decide_eq_false (by omega)
              subst hres
              clear hC HNE h4
              go_wp2_with fail
              refine HQR.out.mono ?_
              rintro e w5 ⟨u5, rfl, hsu, hb5⟩
              have hsu0 := hsu _ HSB0.out
              obtain ⟨A5, c5, rfl, -, -, -⟩ := hsu0.form
              have HS5 := Lib.hid hsu0
              have HO5 := Lib.hid (hown.out.below hb5)
              have HM5 := Lib.hid (hmi.out.call hb5)
              clear hsu hsu0 hb5
              go_wp2_with (at_builtin; refine wpB_appendS rfl _ _ rfl B0 _ outL quitL ⟨#[81, 85, 73, 84, 13, 10]⟩ rfl HO5.out rfl rfl (by have := HOL.out; have : quitL.length = 6 := rfl; omega) HM5.out.le ?_)
              intro v7 w7 hown7 _ hb7
              have HM7 := Lib.hid (HM5.out.callN hb7 (Nat.le_refl B0))
              have HO7 := Lib.hid hown7
              clear hown7 hb7
              go_wp2
              go_ret2
              exact ⟨_, rfl, OB.mono (HO7.out) HBB.out, HBW.out.trans ((HM7.out).bel.mono HBB.out)⟩
      · have HE : Hid (exc (st.drop 3) (rps cur) outL = R) := HEX.out (by omega)
        have hck : wr.cell? ⟨G, 3, none⟩ = some (.string ⟨#[68, 65, 84, 65]⟩) := HROW1.out.cell 3
        clear HEX hex6 HROW1
        cases is with
        | false =>
          have hres : R = (outL, 0) := by have := HE.out; rw [HNO.out rfl, exc_nil] at this; exact this.symm
          subst hres
          clear HE
          go_wp2_with fail
          refine HQR.out.mono ?_
          rintro e w5 ⟨u5, rfl, hsu, hb5⟩
          have hsu0 := hsu _ HSB0.out
          obtain ⟨A5, c5, rfl, -, -, -⟩ := hsu0.form
          have HS5 := Lib.hid hsu0
          have HO5 := Lib.hid (hown.out.below hb5)
          have HM5 := Lib.hid (hmi.out.call hb5)
          clear hsu hsu0 hb5
          go_wp2
          go_ret2
          exact ⟨_, rfl, OB.mono (HO5.out) HBB.out, HBW.out.trans ((HM5.out).bel.mono HBB.out)⟩
        | true =>
          obtain ⟨hrps, hc2, hc5⟩ := HSO.out rfl
          have hne := HE.out
          rw [hrps] at hne
          have HNE := Lib.hid hne
          clear HE hrps hne
          rcases (by omega : C = 250 ∨ C = 251 ∨ (C ≠ 250 ∧ C ≠ 251)) with hC | hC | hC
          · have g250 : ((C : Int) == 250) = true := by simp; omega
            have f250 : (C == 250) = true := by simp; omega
            have hnext : Hid (4 < 6 → exc (st.drop 4) (rps (cd)) (outL ++ dataL) = R) := fun _ => by have := HNE.out; rw [D3.out, D4.out, exc_ok _ _ _ _ _ _ (by simp; omega), ← D4.out] at this; exact this
            have hlast : Hid (4 = 6 → R = (outL ++ dataL, 250)) := fun h => absurd h (by decide)
            clear hC HNE
            go_wp2_with fail
            refine HQR.out.mono ?_
            rintro e w5 ⟨u5, rfl, hsu, hb5⟩
            have hsu0 := hsu _ HSB0.out
            obtain ⟨A5, c5, rfl, -, -, -⟩ := hsu0.form
            have HS5 := Lib.hid hsu0
            have HO5 := Lib.hid (hown.out.below hb5)
            have HM5 := Lib.hid (hmi.out.call hb5)
            clear hsu hsu0 hb5
            go_wp2_with (at_builtin; refine wpB_appendS rfl _ _ rfl B0 _ outL dataL T3 rfl HO5.out rfl M3.out (by have := HOL.out; have : dataL.length = 6 := rfl; omega) HM5.out.le ?_)
            intro v7 w7 hown7 _ hb7
            obtain ⟨out2, hout2⟩ : ∃ q, outL ++ dataL = q := ⟨_, rfl⟩
            have hl2 := congrArg List.length hout2
            rw [List.length_append, HOL.out] at hl2
            rw [hout2] at hown7 hnext hlast
            obtain ⟨A7, c7, rfl, -, -, -⟩ := hown7.reads.form
            have HM7 := Lib.hid (HM5.out.callN hb7 (Nat.le_refl B0))
            have HO7 := Lib.hid hown7
            have HL2 := Lib.hid hl2
            clear hown7 hb7 hout2 hl2
            go_wp2
            go_roundw
            case rel => exact ⟨4, cd, out2, ⟨by first | rfl | go_num, by omega, HDL.out, by have := HL2.out; have : dataL.length = 6 := rfl; omega⟩, hnext, (fun h => hlast.out (by first | exact h | trivial)), HS5.out, HO7.out, HM7.out⟩
            case measure => simp [intOf]
          · have g250 : ((C : Int) == 250) = false := by simp; omega
            have f250 : (C == 250) = false := by simp; omega
            have g251 : ((C : Int) == 251) = true := by simp; omega
            have f251 : (C == 251) = true := by simp; omega
            have hnext : Hid (4 < 6 → exc (st.drop 4) (rps (cd)) (outL ++ dataL) = R) := fun _ => by have := HNE.out; rw [D3.out, D4.out, exc_ok _ _ _ _ _ _ (by simp; omega), ← D4.out] at this; exact this
            have hlast : Hid (4 = 6 → R = (outL ++ dataL, 250)) := fun h => absurd h (by decide)
            clear hC HNE
            go_wp2_with fail
            refine HQR.out.mono ?_
            rintro e w5 ⟨u5, rfl, hsu, hb5⟩
            have hsu0 := hsu _ HSB0.out
            obtain ⟨A5, c5, rfl, -, -, -⟩ := hsu0.form
            have HS5 := Lib.hid hsu0
            have HO5 := Lib.hid (hown.out.below hb5)
            have HM5 := Lib.hid (hmi.out.call hb5)
            clear hsu hsu0 hb5
            go_wp2_with (at_builtin; refine wpB_appendS rfl _ _ rfl B0 _ outL dataL T3 rfl HO5.out rfl M3.out (by have := HOL.out; have : dataL.length = 6 := rfl; omega) HM5.out.le ?_)
            intro v7 w7 hown7 _ hb7
            obtain ⟨out2, hout2⟩ : ∃ q, outL ++ dataL = q := ⟨_, rfl⟩
            have hl2 := congrArg List.length hout2
            rw [List.length_append, HOL.out] at hl2
            rw [hout2] at hown7 hnext hlast
            obtain ⟨A7, c7, rfl, -, -, -⟩ := hown7.reads.form
            have HM7 := Lib.hid (HM5.out.callN hb7 (Nat.le_refl B0))
            have HO7 := Lib.hid hown7
            have HL2 := Lib.hid hl2
            clear hown7 hb7 hout2 hl2
            go_wp2
            go_roundw
            case rel => exact ⟨4, cd, out2, ⟨by first | rfl | go_num, by omega, HDL.out, by have := HL2.out; have : dataL.length = 6 := rfl; omega⟩, hnext, (fun h => hlast.out (by first | exact h | trivial)), HS5.out, HO7.out, HM7.out⟩
            case measure => simp [intOf]
          · by_cases h4 : C < 400
            · have g250 : ((C : Int) == 250) = false := by simp; omega
              have f250 : (C == 250) = false := by simp; omega
              have g251 : ((C : Int) == 251) = false := by simp; omega
              have f251 : (C == 251) = false := by simp; omega
              have hres : R = (outL ++ quitL, 0) := by have := HNE.out; rw [D3.out, exc_bad _ _ _ _ _ (by simp; omega), if_pos h4] at this; exact this.symm
              have d4 : decide (C < 400) = true := decide_eq_true h4
              have d4' : decide ((C : Int) < 400) = true := decide_eq_true (by omega)
              subst hres
              clear hC HNE h4
              go_wp2_with fail
              refine HQR.out.mono ?_
              rintro e w5 ⟨u5, rfl, hsu, hb5⟩
              have hsu0 := hsu _ HSB0.out
              obtain ⟨A5, c5, rfl, -, -, -⟩ := hsu0.form
              have HS5 := Lib.hid hsu0
              have HO5 := Lib.hid (hown.out.below hb5)
              have HM5 := Lib.hid (hmi.out.call hb5)
              clear hsu hsu0 hb5
              go_wp2_with (at_builtin; refine wpB_appendS rfl _ _ rfl B0 _ outL quitL ⟨#[81, 85, 73, 84, 13, 10]⟩ rfl HO5.out rfl rfl (by have := HOL.out; have : quitL.length = 6 := rfl; omega) HM5.out.le ?_)
              intro v7 w7 hown7 _ hb7
              have HM7 := Lib.hid (HM5.out.callN hb7 (Nat.le_refl B0))
              have HO7 := Lib.hid hown7
              clear hown7 hb7
              go_wp2
              go_ret2
              exact ⟨_, rfl, OB.mono (HO7.out) HBB.out, HBW.out.trans ((HM7.out).bel.mono HBB.out)⟩
            · have g250 : ((C : Int) == 250) = false := by simp; omega
              have f250 : (C == 250) = false := by simp; omega
              have g251 : ((C : Int) == 251) = false := by simp; omega
              have f251 : (C == 251) = false := by simp; omega
              have hres : R = (outL ++ quitL, C) := by have := HNE.out; rw [D3.out, exc_bad _ _ _ _ _ (by simp; omega), if_neg h4] at this; exact this.symm
              have d4 : decide (C < 400) = false := decide_eq_false h4
              have d4' : decide ((C : Int) < 400) = false := decide_eq_false (by omega)
              subst hres
              clear hC HNE h4
              go_wp2_with fail
              refine HQR.out.mono ?_
              rintro e w5 ⟨u5, rfl, hsu, hb5⟩
              have hsu0 := hsu _ HSB0.out
              obtain ⟨A5, c5, rfl, -, -, -⟩ := hsu0.form
              have HS5 := Lib.hid hsu0
              have HO5 := Lib.hid (hown.out.below hb5)
              have HM5 := Lib.hid (hmi.out.call hb5)
              clear hsu hsu0 hb5
              go_wp2_with (at_builtin; refine wpB_appendS rfl _ _ rfl B0 _ outL quitL ⟨#[81, 85, 73, 84, 13, 10]⟩ rfl HO5.out rfl rfl (by have := HOL.out; have : quitL.length = 6 := rfl; omega) HM5.out.le ?_)
              intro v7 w7 hown7 _ hb7
              have HM7 := Lib.hid (HM5.out.callN hb7 (Nat.le_refl B0))
              have HO7 := Lib.hid hown7
              clear hown7 hb7
              go_wp2
              go_ret2
              exact ⟨_, rfl, OB.mono (HO7.out) HBB.out, HBW.out.trans ((HM7.out).bel.mono HBB.out)⟩
      · have HE : Hid (exc (st.drop 4) (rps cur) outL = R) := HEX.out (by omega)
        have hck : wr.cell? ⟨G, 4, none⟩ = some (.string ⟨#[]⟩) := HROW1.out.cell 4
        clear HEX hex6 HROW1
        cases is with
        | false =>
          have hres : R = (outL, 0) := by have := HE.out; rw [HNO.out rfl, exc_nil] at this; exact this.symm
          subst hres
          clear HE
          go_wp2_with fail
          refine HQR.out.mono ?_
          rintro e w5 ⟨u5, rfl, hsu, hb5⟩
          have hsu0 := hsu _ HSB0.out
          obtain ⟨A5, c5, rfl, -, -, -⟩ := hsu0.form
          have HS5 := Lib.hid hsu0
          have HO5 := Lib.hid (hown.out.below hb5)
          have HM5 := Lib.hid (hmi.out.call hb5)
          clear hsu hsu0 hb5
          go_wp2
          go_ret2
          exact ⟨_, rfl, OB.mono (HO5.out) HBB.out, HBW.out.trans ((HM5.out).bel.mono HBB.out)⟩
        | true =>
          obtain ⟨hrps, hc2, hc5⟩ := HSO.out rfl
          have hne := HE.out
          rw [hrps] at hne
          have HNE := Lib.hid hne
          clear HE hrps hne
          by_cases hC : C = 354
          · obtain ⟨bb, hbb⟩ : ∃ bb, ((C : Int) == 250) = bb := ⟨_, rfl⟩
            obtain ⟨bb2, hbb2⟩ : ∃ bb, (C == 250) = bb := ⟨_, rfl⟩
            have g354 : ((C : Int) == 354) = true := by simp; omega
            have f354 : (C == 354) = true := by simp; omega
            have hnext : Hid (5 < 6 → exc (st.drop 5) (rps (cd)) (outL ++ E4) = R) := fun _ => by have := HNE.out; rw [D4.out, D5.out, exc_ok _ _ _ _ _ _ (by simp; omega), ← D5.out] at this; exact this
            have hlast : Hid (5 = 6 → R = (outL ++ E4, 250)) := fun h => absurd h (by decide)
            clear hC HNE
            go_wp2_with fail
            refine HQR.out.mono ?_
            rintro e w5 ⟨u5, rfl, hsu, hb5⟩
            have hsu0 := hsu _ HSB0.out
            obtain ⟨A5, c5, rfl, -, -, -⟩ := hsu0.form
            have HS5 := Lib.hid hsu0
            have HO5 := Lib.hid (hown.out.below hb5)
            have HM5 := Lib.hid (hmi.out.call hb5)
            clear hsu hsu0 hb5
            have hqs := qstuff_any (.slice Ab nb cb) b w5 (by rw [HNB.out]; omega) (HB.out.below (HBW.out.trans (HM5.out.bel.mono HBB.out)))
            have HQS := Lib.hid hqs
            clear hqs
            go_wp2_with fail
            refine HQS.out.mono ?_
            rintro e w6 ⟨u6, rfl, ho6, hb6⟩
            rw [HE4.out] at ho6
            obtain ⟨A6, c6, rfl, -, -, -⟩ := ho6.reads.form
            have HO6 := Lib.hid (HO5.out.below hb6)
            have HM6 := Lib.hid (HM5.out.call hb6)
            have HU6 := Lib.hid ho6.reads
            clear ho6 hb6
            go_wp2_with (at_builtin; refine wpB_append rfl _ _ rfl B0 _ _ outL E4 rfl HO6.out rfl HU6.out (by have := HOL.out; omega) HM6.out.le ?_)
            intro v7 w7 hown7 _ hb7
            obtain ⟨out2, hout2⟩ : ∃ q, outL ++ E4 = q := ⟨_, rfl⟩
            have hl2 := congrArg List.length hout2
            rw [List.length_append, HOL.out] at hl2
            rw [hout2] at hown7 hnext hlast
            obtain ⟨A7, c7, rfl, -, -, -⟩ := hown7.reads.form
            have HM7 := Lib.hid (HM6.out.callN hb7 (Nat.le_refl B0))
            have HO7 := Lib.hid hown7
            have HL2 := Lib.hid hl2
            clear hown7 hb7 hout2 hl2
            go_wp2
            go_roundw
            case rel => exact ⟨5, cd, out2, ⟨by first | rfl | go_num, by omega, HDL.out, by have := HL2.out; omega⟩, hnext, (fun h => hlast.out (by first | exact h | trivial)), HS5.out, HO7.out, HM7.out⟩
            case measure => simp [intOf]
          · by_cases h4 : C < 400
            · obtain ⟨bb, hbb⟩ : ∃ bb, ((C : Int) == 250) = bb := ⟨_, rfl⟩
              obtain ⟨bb2, hbb2⟩ : ∃ bb, (C == 250) = bb := ⟨_, rfl⟩
              have g354 : ((C : Int) == 354) = false := by simp; omega
              have f354 : (C == 354) = false := by simp; omega
              have hres : R = (outL ++ quitL, 0) := by have := HNE.out; rw [D4.out, exc_bad _ _ _ _ _ (by simp; omega), if_pos h4] at this; exact this.symm
              have d4 : decide (C < 400) = true := decide_eq_true h4
              have d4' : decide ((C : Int) < 400) = true := decide_eq_true (by omega)
              subst hres
              clear hC HNE h4
              go_wp2_with fail
              refine HQR.out.mono ?_
              rintro e w5 ⟨u5, rfl, hsu, hb5⟩
              have hsu0 := hsu _ HSB0.out
              obtain ⟨A5, c5, rfl, -, -, -⟩ := hsu0.form
              have HS5 := Lib.hid hsu0
              have HO5 := Lib.hid (hown.out.below hb5)
              have HM5 := Lib.hid (hmi.out.call hb5)
              clear hsu hsu0 hb5
              go_wp2_with (at_builtin; refine wpB_appendS rfl _ _ rfl B0 _ outL quitL ⟨#[81, 85, 73, 84, 13, 10]⟩ rfl HO5.out rfl rfl (by have := HOL.out; have : quitL.length = 6 := rfl; omega) HM5.out.le ?_)
              intro v7 w7 hown7 _ hb7
              have HM7 := Lib.hid (HM5.out.callN hb7 (Nat.le_refl B0))
              have HO7 := Lib.hid hown7
              clear hown7 hb7
              go_wp2
              go_ret2
              exact ⟨_, rfl, OB.mono (HO7.out) HBB.out, HBW.out.trans ((HM7.out).bel.mono HBB.out)⟩
            · obtain ⟨bb, hbb⟩ : ∃ bb, ((C : Int) == 250) = bb := ⟨_, rfl⟩
              obtain ⟨bb2, hbb2⟩ : ∃ bb, (C == 250) = bb := ⟨_, rfl⟩
              have g354 : ((C : Int) == 354) = false := by simp; omega
              have f354 : (C == 354) = false := by simp; omega
              have hres : R = (outL ++ quitL, C) := by have := HNE.out; rw [D4.out, exc_bad _ _ _ _ _ (by simp; omega), if_neg h4] at this; exact this.symm
              have d4 : decide (C < 400) = false := decide_eq_false h4
              have d4' : decide ((C : Int) < 400) = false := decide_eq_false (by omega)
              subst hres
              clear hC HNE h4
              go_wp2_with fail
              refine HQR.out.mono ?_
              rintro e w5 ⟨u5, rfl, hsu, hb5⟩
              have hsu0 := hsu _ HSB0.out
              obtain ⟨A5, c5, rfl, -, -, -⟩ := hsu0.form
              have HS5 := Lib.hid hsu0
              have HO5 := Lib.hid (hown.out.below hb5)
              have HM5 := Lib.hid (hmi.out.call hb5)
              clear hsu hsu0 hb5
              go_wp2_with (at_builtin; refine wpB_appendS rfl _ _ rfl B0 _ outL quitL ⟨#[81, 85, 73, 84, 13, 10]⟩ rfl HO5.out rfl rfl (by have := HOL.out; have : quitL.length = 6 := rfl; omega) HM5.out.le ?_)
              intro v7 w7 hown7 _ hb7
              have HM7 := Lib.hid (HM5.out.callN hb7 (Nat.le_refl B0))
              have HO7 := Lib.hid hown7
              clear hown7 hb7
              go_wp2
              go_ret2
              exact ⟨_, rfl, OB.mono (HO7.out) HBB.out, HBW.out.trans ((HM7.out).bel.mono HBB.out)⟩
      · have HE : Hid (exc (st.drop 5) (rps cur) outL = R) := HEX.out (by omega)
        have hck : wr.cell? ⟨G, 5, none⟩ = some (.string ⟨#[81, 85, 73, 84]⟩) := HROW1.out.cell 5
        clear HEX hex6 HROW1
        cases is with
        | false =>
          have hres : R = (outL, 0) := by have := HE.out; rw [HNO.out rfl, exc_nil] at this; exact this.symm
          subst hres
          clear HE
          go_wp2_with fail
          refine HQR.out.mono ?_
          rintro e w5 ⟨u5, rfl, hsu, hb5⟩
          have hsu0 := hsu _ HSB0.out
          obtain ⟨A5, c5, rfl, -, -, -⟩ := hsu0.form
          have HS5 := Lib.hid hsu0
          have HO5 := Lib.hid (hown.out.below hb5)
          have HM5 := Lib.hid (hmi.out.call hb5)
          clear hsu hsu0 hb5
          go_wp2
          go_ret2
          exact ⟨_, rfl, OB.mono (HO5.out) HBB.out, HBW.out.trans ((HM5.out).bel.mono HBB.out)⟩
        | true =>
          obtain ⟨hrps, hc2, hc5⟩ := HSO.out rfl
          have hne := HE.out
          rw [hrps] at hne
          have HNE := Lib.hid hne
          clear HE hrps hne
          by_cases hC : C = 250
          · have g250 : ((C : Int) == 250) = true := by simp; omega
            have f250 : (C == 250) = true := by simp; omega
            have hlast : Hid (5 + 1 = 6 → R = (outL ++ quitL, 250)) := fun _ => by have := HNE.out; rw [D5.out, exc_last _ _ _ _ (by simp; omega), hC] at this; exact this.symm
            have hnext : Hid (6 < 6 → exc (st.drop 6) (rps (cd)) (outL ++ quitL) = R) := fun h => absurd h (by decide)
            clear hC HNE
            go_wp2_with fail
            refine HQR.out.mono ?_
            rintro e w5 ⟨u5, rfl, hsu, hb5⟩
            have hsu0 := hsu _ HSB0.out
            obtain ⟨A5, c5, rfl, -, -, -⟩ := hsu0.form
            have HS5 := Lib.hid hsu0
            have HO5 := Lib.hid (hown.out.below hb5)
            have HM5 := Lib.hid (hmi.out.call hb5)
            clear hsu hsu0 hb5
            go_wp2_with (at_builtin; refine wpB_appendS rfl _ _ rfl B0 _ outL quitL T5 rfl HO5.out rfl M5.out (by have := HOL.out; have : quitL.length = 6 := rfl; omega) HM5.out.le ?_)
            intro v7 w7 hown7 _ hb7
            obtain ⟨out2, hout2⟩ : ∃ q, outL ++ quitL = q := ⟨_, rfl⟩
            have hl2 := congrArg List.length hout2
            rw [List.length_append, HOL.out] at hl2
            rw [hout2] at hown7 hnext hlast
            obtain ⟨A7, c7, rfl, -, -, -⟩ := hown7.reads.form
            have HM7 := Lib.hid (HM5.out.callN hb7 (Nat.le_refl B0))
            have HO7 := Lib.hid hown7
            have HL2 := Lib.hid hl2
            clear hown7 hb7 hout2 hl2
            go_wp2
            go_roundw
            case rel => exact ⟨6, cd, out2, ⟨by first | rfl | go_num, by omega, HDL.out, by have := HL2.out; have : quitL.length = 6 := rfl; omega⟩, hnext, (fun h => hlast.out (by first | exact h | trivial)), HS5.out, HO7.out, HM7.out⟩
            case measure => simp [intOf]
          · by_cases h4 : C < 400
            · have g250 : ((C : Int) == 250) = false := by simp; omega
              have f250 : (C == 250) = false := by simp; omega
              have hres : R = (outL ++ quitL, 0) := by have := HNE.out; rw [D5.out, exc_bad _ _ _ _ _ (by simp; omega), if_pos h4] at this; exact this.symm
              have d4 : decide (C < 400) = true := decide_eq_true h4
              have d4' : decide ((C : Int) < 400) = true := decide_eq_true (by omega)
              subst hres
              clear hC HNE h4
              go_wp2_with fail
              refine HQR.out.mono ?_
              rintro e w5 ⟨u5, rfl, hsu, hb5⟩
              have hsu0 := hsu _ HSB0.out
              obtain ⟨A5, c5, rfl, -, -, -⟩ := hsu0.form
              have HS5 := Lib.hid hsu0
              have HO5 := Lib.hid (hown.out.below hb5)
              have HM5 := Lib.hid (hmi.out.call hb5)
              clear hsu hsu0 hb5
              go_wp2_with (at_builtin; refine wpB_appendS rfl _ _ rfl B0 _ outL quitL ⟨#[81, 85, 73, 84, 13, 10]⟩ rfl HO5.out rfl rfl (by have := HOL.out; have : quitL.length = 6 := rfl; omega) HM5.out.le ?_)
              intro v7 w7 hown7 _ hb7
              have HM7 := Lib.hid (HM5.out.callN hb7 (Nat.le_refl B0))
              have HO7 := Lib.hid hown7
              clear hown7 hb7
              go_wp2
              go_ret2
              exact ⟨_, rfl, OB.mono (HO7.out) HBB.out, HBW.out.trans ((HM7.out).bel.mono HBB.out)⟩
            · have g250 : ((C : Int) == 250) = false := by simp; omega
              have f250 : (C == 250) = false := by simp; omega
              have hres : R = (outL ++ quitL, C) := by have := HNE.out; rw [D5.out, exc_bad _ _ _ _ _ (by simp; omega), if_neg h4] at this; exact this.symm
              have d4 : decide (C < 400) = false := decide_eq_false h4
              have d4' : decide ((C : Int) < 400) = false := decide_eq_false (by omega)
              subst hres
              clear hC HNE h4
              go_wp2_with fail
              refine HQR.out.mono ?_
              rintro e w5 ⟨u5, rfl, hsu, hb5⟩
              have hsu0 := hsu _ HSB0.out
              obtain ⟨A5, c5, rfl, -, -, -⟩ := hsu0.form
              have HS5 := Lib.hid hsu0
              have HO5 := Lib.hid (hown.out.below hb5)
              have HM5 := Lib.hid (hmi.out.call hb5)
              clear hsu hsu0 hb5
              go_wp2_with (at_builtin; refine wpB_appendS rfl _ _ rfl B0 _ outL quitL ⟨#[81, 85, 73, 84, 13, 10]⟩ rfl HO5.out rfl rfl (by have := HOL.out; have : quitL.length = 6 := rfl; omega) HM5.out.le ?_)
              intro v7 w7 hown7 _ hb7
              have HM7 := Lib.hid (HM5.out.callN hb7 (Nat.le_refl B0))
              have HO7 := Lib.hid hown7
              clear hown7 hb7
              go_wp2
              go_ret2
              exact ⟨_, rfl, OB.mono (HO7.out) HBB.out, HBW.out.trans ((HM7.out).bel.mono HBB.out)⟩
      · have hres : R = (outL, 250) := hex6.out rfl
        subst hres
        clear HEX hex6 HQR HNO HSO
        have HO := Lib.hid hown.out
        have HMM := Lib.hid hmi.out
        clear hown hmi
        go_wp2
        go_ret2
        exact ⟨_, rfl, OB.mono (HO.out) HBB.out, HBW.out.trans ((HMM.out).bel.mono HBB.out)⟩
  | false =>
    obtain rfl : q2 = true := by simpa using hk
    clear hk
    go_enter Try.func16, Try.ntmps16
    go_wp2_with fail
    refine (HD.out _).mono ?_
    rintro e w1 ⟨rfl, b1⟩
    go_wp2_with fail
    refine (HF.out _).mono ?_
    rintro e w2 ⟨rfl, b2⟩
    have c2 := b1.trans (b2.mono b1.size)
    clear b1 b2
    go_wp2_with fail
    refine (HR.out _).mono ?_
    rintro e w4 ⟨rfl, b4⟩
    have c4 := c2.trans (b4.mono c2.size)
    clear b4 c2
    go_wp2_with fail
    obtain ⟨G, hG⟩ : ∃ G, w4.heap.size = G := ⟨_, rfl⟩
    have hrow := Row.new w4 #[.string S0, .string S1, .string S2, .string ⟨#[68, 65, 84, 65]⟩, .string ⟨#[]⟩, .string ⟨#[81, 85, 73, 84]⟩] 9
    obtain ⟨W0, hW0⟩ : ∃ W0, w4.alloc (.cells #[.string S0, .string S1, .string S2, .string ⟨#[68, 65, 84, 65]⟩, .string ⟨#[]⟩, .string ⟨#[81, 85, 73, 84]⟩] 9) = W0 := ⟨_, rfl⟩
    have hbW : Below w.heap.size w W0 := by rw [← hW0]; exact c4.alloc c4.size _
    have hGW : G < W0.heap.size := by rw [← hW0, alloc_size, hG]; omega
    rw [hW0, hG] at hrow
    have HW0 := Lib.hid hW0
    have HROW := Lib.hid hrow
    have HBW := Lib.hid hbW
    have HSM : Hid (SB W0 (.slice Am m.length cm) m) := HM.out.below hbW
    obtain ⟨B0, hB0⟩ : ∃ B, W0.heap.size = B := ⟨_, rfl⟩
    have HGB : Hid (G < B0) := by show G < B0; omega
    have HMI : Hid (Mine B0 W0 W0) := by show Mine B0 W0 W0; rw [← hB0]; exact Mine.refl W0
    have HBB : Hid (w.heap.size ≤ B0) := by show _ ≤ _; rw [← hB0]; exact hbW.size
    have hk0 : m.length ≤ 1000000 := hml
    obtain ⟨L, hL⟩ : ∃ L, m.length = L := ⟨_, rfl⟩
    have HLM := Lib.hid hL
    rw [hL] at HSM hk0
    first | rw [hL] | skip
    clear c4 hrow hW0 hbW hGW hL
    go_wp2
    go_loopw [4, 12, 46] (fun rem out x wr => ∃ (k : Nat) (cur outL : List UInt8), (x = .int .i64 (k : Int) ∧ k ≤ 6 ∧ cur.length ≤ 1000000 ∧ outL.length ≤ k * 300000) ∧ Hid (k < 6 → exc (st.drop k) (rps cur) outL = R) ∧ Hid (k = 6 → R = (outL, 250)) ∧ Hid (SB W0 rem cur) ∧ Hid (OB wr B0 out outL) ∧ Hid (Mine B0 W0 wr)) (fun _ _ x _ => 6 - (intOf x).toNat)
    case atStart => exact ⟨0, m, [], ⟨rfl, by omega, hml, by simp⟩, fun _ => HST.out, fun h => absurd h (by omega), by (first | (rw [hG]) | skip); rw [← HLM.out] at HSM; first | exact HSM | (rw [HLM.out]; exact HSM) | (rw [← HLM.out]; exact HSM), World.ownsRow_nil _ _ _ _, by first | exact HMI | (rw [HW0.out]; exact HMI)⟩
    case round =>
      clear HST HSM HMI
      obtain ⟨k, cur, outL, ⟨rfl, hk6, hcl, hol⟩, hex, hex6, hsb, hown, hmi⟩ := hrel
      obtain ⟨Ar, cr, rfl, -, -, -⟩ := hsb.out.form
      obtain ⟨Ao, co, rfl, -, -, -⟩ := hown.out.reads.form
      have hrow := HROW.out.below hmi.out.bel HGB.out
      have HROW1 := Lib.hid hrow
      have hqr := qReply_any _ cur wr (by omega) (hsb.out.below (by rw [hB0]; exact hmi.out.bel))
      have hle := rpU_le cur
      have hno := rp_none_rps cur
      have hso := rp_some_rps cur
      obtain ⟨C, hC⟩ : ∃ C, rpC (rp cur) = C := ⟨_, rfl⟩
      obtain ⟨U, hU⟩ : ∃ C, rpU (rp cur) = C := ⟨_, rfl⟩
      obtain ⟨is, his⟩ : ∃ C, (rp cur).isSome = C := ⟨_, rfl⟩
      rw [hC, hU, his] at hqr
      rw [hU] at hle
      rw [his] at hno hso
      rw [hC, hU] at hso
      have hdl : (cur.drop U).length ≤ 1000000 := by rw [List.length_drop]; omega
      obtain ⟨cd, hcd⟩ : ∃ q, cur.drop U = q := ⟨_, rfl⟩
      rw [hcd] at hqr hso hdl
      obtain ⟨n, hn⟩ : ∃ n, cur.length = n := ⟨_, rfl⟩
      obtain ⟨no, hno'⟩ : ∃ n, outL.length = n := ⟨_, rfl⟩
      rw [hn] at hqr
      rw [hno'] at hol hown
      have HOL := Lib.hid hno'
      have HQR := Lib.hid hqr
      have HNO := Lib.hid hno
      have HSO := Lib.hid hso
      have HDL := Lib.hid hdl
      have HEX := Lib.hid hex
      rw [hn, hno']
      have hsb0 := hsb.out
      rw [hn] at hsb0
      have HSB0 := Lib.hid hsb0
      clear hqr hno hso hdl hcd hC hU his hle hcl hrow hsb hn hno' hex hsb0
      rcases (by omega : k = 0 ∨ k = 1 ∨ k = 2 ∨ k = 3 ∨ k = 4 ∨ k = 5 ∨ k = 6) with rfl | rfl | rfl | rfl | rfl | rfl | rfl
      · have HE : Hid (exc (st.drop 0) (rps cur) outL = R) := HEX.out (by omega)
        have hck : wr.cell? ⟨G, 0, none⟩ = some (.string S0) := HROW1.out.cell 0
        clear HEX hex6 HROW1
        cases is with
        | false =>
          have hres : R = (outL, 0) := by have := HE.out; rw [HNO.out rfl, exc_nil] at this; exact this.symm
          subst hres
          clear HE
          go_wp2_with fail
          refine HQR.out.mono ?_
          rintro e w5 ⟨u5, rfl, hsu, hb5⟩
          have hsu0 := hsu _ HSB0.out
          obtain ⟨A5, c5, rfl, -, -, -⟩ := hsu0.form
          have HS5 := Lib.hid hsu0
          have HO5 := Lib.hid (hown.out.below hb5)
          have HM5 := Lib.hid (hmi.out.call hb5)
          clear hsu hsu0 hb5
          go_wp2
          go_ret2
          exact ⟨_, rfl, OB.mono (HO5.out) HBB.out, HBW.out.trans ((HM5.out).bel.mono HBB.out)⟩
        | true =>
          obtain ⟨hrps, hc2, hc5⟩ := HSO.out rfl
          have hne := HE.out
          rw [hrps] at hne
          have HNE := Lib.hid hne
          clear HE hrps hne
          by_cases hC : C = 220
          · obtain ⟨bb, hbb⟩ : ∃ bb, ((C : Int) == 250) = bb := ⟨_, rfl⟩
            obtain ⟨bb2, hbb2⟩ : ∃ bb, (C == 250) = bb := ⟨_, rfl⟩
            have g220 : ((C : Int) == 220) = true := by simp; omega
            have f220 : (C == 220) = true := by simp; omega
            have hnext : Hid (1 < 6 → exc (st.drop 1) (rps (cd)) (outL ++ E0) = R) := fun _ => by have := HNE.out; rw [D0.out, D1.out, exc_ok _ _ _ _ _ _ (by simp; omega), ← D1.out] at this; exact this
            have hlast : Hid (1 = 6 → R = (outL ++ E0, 250)) := fun h => absurd h (by decide)
            clear hC HNE
            go_wp2_with fail
            refine HQR.out.mono ?_
            rintro e w5 ⟨u5, rfl, hsu, hb5⟩
            have hsu0 := hsu _ HSB0.out
            obtain ⟨A5, c5, rfl, -, -, -⟩ := hsu0.form
            have HS5 := Lib.hid hsu0
            have HO5 := Lib.hid (hown.out.below hb5)
            have HM5 := Lib.hid (hmi.out.call hb5)
            clear hsu hsu0 hb5
            go_wp2_with (at_builtin; refine wpB_appendS rfl _ _ rfl B0 _ outL E0 T0 rfl HO5.out rfl M0.out (by have := HOL.out; omega) HM5.out.le ?_)
            intro v7 w7 hown7 _ hb7
            obtain ⟨out2, hout2⟩ : ∃ q, outL ++ E0 = q := ⟨_, rfl⟩
            have hl2 := congrArg List.length hout2
            rw [List.length_append, HOL.out] at hl2
            rw [hout2] at hown7 hnext hlast
            obtain ⟨A7, c7, rfl, -, -, -⟩ := hown7.reads.form
            have HM7 := Lib.hid (HM5.out.callN hb7 (Nat.le_refl B0))
            have HO7 := Lib.hid hown7
            have HL2 := Lib.hid hl2
            clear hown7 hb7 hout2 hl2
            go_wp2
            go_roundw
            case rel => exact ⟨1, cd, out2, ⟨by first | rfl | go_num, by omega, HDL.out, by have := HL2.out; omega⟩, hnext, (fun h => hlast.out (by first | exact h | trivial)), HS5.out, HO7.out, HM7.out⟩
            case measure => simp [intOf]
          · by_cases h4 : C < 400
            · obtain ⟨bb, hbb⟩ : ∃ bb, ((C : Int) == 250) = bb := ⟨_, rfl⟩
              obtain ⟨bb2, hbb2⟩ : ∃ bb, (C == 250) = bb := ⟨_, rfl⟩
              have g220 : ((C : Int) == 220) = false := by simp; omega
              have f220 : (C == 220) = false := by simp; omega
              have hres : R = (outL ++ quitL, 0) := by have := HNE.out; rw [D0.out, exc_bad _ _ _ _ _ (by simp; omega), if_pos h4] at this; exact this.symm
              have d4 : decide (C < 400) = true := decide_eq_true h4
              have d4' : decide ((C : Int) < 400) = true := decide_eq_true (by omega)
              subst hres
              clear hC HNE h4
              go_wp2_with fail
              refine HQR.out.mono ?_
              rintro e w5 ⟨u5, rfl, hsu, hb5⟩
              have hsu0 := hsu _ HSB0.out
              obtain ⟨A5, c5, rfl, -, -, -⟩ := hsu0.form
              have HS5 := Lib.hid hsu0
              have HO5 := Lib.hid (hown.out.below hb5)
              have HM5 := Lib.hid (hmi.out.call hb5)
              clear hsu hsu0 hb5
              go_wp2_with (at_builtin; refine wpB_appendS rfl _ _ rfl B0 _ outL quitL ⟨#[81, 85, 73, 84, 13, 10]⟩ rfl HO5.out rfl rfl (by have := HOL.out; have : quitL.length = 6 := rfl; omega) HM5.out.le ?_)
              intro v7 w7 hown7 _ hb7
              have HM7 := Lib.hid (HM5.out.callN hb7 (Nat.le_refl B0))
              have HO7 := Lib.hid hown7
              clear hown7 hb7
              go_wp2
              go_ret2
              exact ⟨_, rfl, OB.mono (HO7.out) HBB.out, HBW.out.trans ((HM7.out).bel.mono HBB.out)⟩
            · obtain ⟨bb, hbb⟩ : ∃ bb, ((C : Int) == 250) = bb := ⟨_, rfl⟩
              obtain ⟨bb2, hbb2⟩ : ∃ bb, (C == 250) = bb := ⟨_, rfl⟩
              have g220 : ((C : Int) == 220) = false := by simp; omega
              have f220 : (C == 220) = false := by simp; omega
              have hres : R = (outL ++ quitL, C) := by have := HNE.out; rw [D0.out, exc_bad _ _ _ _ _ (by simp; omega), if_neg h4] at this; exact this.symm
              have d4 : decide (C < 400) = false := decide_eq_false h4
              have d4' : decide ((C : Int) < 400) = false := decide_eq_false (by omega)
              subst hres
              clear hC HNE h4
              go_wp2_with fail
              refine HQR.out.mono ?_
              rintro e w5 ⟨u5, rfl, hsu, hb5⟩
              have hsu0 := hsu _ HSB0.out
              obtain ⟨A5, c5, rfl, -, -, -⟩ := hsu0.form
              have HS5 := Lib.hid hsu0
              have HO5 := Lib.hid (hown.out.below hb5)
              have HM5 := Lib.hid (hmi.out.call hb5)
              clear hsu hsu0 hb5
              go_wp2_with (at_builtin; refine wpB_appendS rfl _ _ rfl B0 _ outL quitL ⟨#[81, 85, 73, 84, 13, 10]⟩ rfl HO5.out rfl rfl (by have := HOL.out; have : quitL.length = 6 := rfl; omega) HM5.out.le ?_)
              intro v7 w7 hown7 _ hb7
              have HM7 := Lib.hid (HM5.out.callN hb7 (Nat.le_refl B0))
              have HO7 := Lib.hid hown7
              clear hown7 hb7
              go_wp2
              go_ret2
              exact ⟨_, rfl, OB.mono (HO7.out) HBB.out, HBW.out.trans ((HM7.out).bel.mono HBB.out)⟩
      · have HE : Hid (exc (st.drop 1) (rps cur) outL = R) := HEX.out (by omega)
        have hck : wr.cell? ⟨G, 1, none⟩ = some (.string S1) := HROW1.out.cell 1
        clear HEX hex6 HROW1
        cases is with
        | false =>
          have hres : R = (outL, 0) := by have := HE.out; rw [HNO.out rfl, exc_nil] at this; exact this.symm
          subst hres
          clear HE
          go_wp2_with fail
          refine HQR.out.mono ?_
          rintro e w5 ⟨u5, rfl, hsu, hb5⟩
          have hsu0 := hsu _ HSB0.out
          obtain ⟨A5, c5, rfl, -, -, -⟩ := hsu0.form
          have HS5 := Lib.hid hsu0
          have HO5 := Lib.hid (hown.out.below hb5)
          have HM5 := Lib.hid (hmi.out.call hb5)
          clear hsu hsu0 hb5
          go_wp2
          go_ret2
          exact ⟨_, rfl, OB.mono (HO5.out) HBB.out, HBW.out.trans ((HM5.out).bel.mono HBB.out)⟩
        | true =>
          obtain ⟨hrps, hc2, hc5⟩ := HSO.out rfl
          have hne := HE.out
          rw [hrps] at hne
          have HNE := Lib.hid hne
          clear HE hrps hne
          by_cases hC : C = 250
          · have g250 : ((C : Int) == 250) = true := by simp; omega
            have f250 : (C == 250) = true := by simp; omega
            have hnext : Hid (2 < 6 → exc (st.drop 2) (rps (cd)) (outL ++ E1) = R) := fun _ => by have := HNE.out; rw [D1.out, D2.out, exc_ok _ _ _ _ _ _ (by simp; omega), ← D2.out] at this; exact this
            have hlast : Hid (2 = 6 → R = (outL ++ E1, 250)) := fun h => absurd h (by decide)
            clear hC HNE
            go_wp2_with fail
            refine HQR.out.mono ?_
            rintro e w5 ⟨u5, rfl, hsu, hb5⟩
            have hsu0 := hsu _ HSB0.out
            obtain ⟨A5, c5, rfl, -, -, -⟩ := hsu0.form
            have HS5 := Lib.hid hsu0
            have HO5 := Lib.hid (hown.out.below hb5)
            have HM5 := Lib.hid (hmi.out.call hb5)
            clear hsu hsu0 hb5
            go_wp2_with (at_builtin; refine wpB_appendS rfl _ _ rfl B0 _ outL E1 T1 rfl HO5.out rfl M1.out (by have := HOL.out; omega) HM5.out.le ?_)
            intro v7 w7 hown7 _ hb7
            obtain ⟨out2, hout2⟩ : ∃ q, outL ++ E1 = q := ⟨_, rfl⟩
            have hl2 := congrArg List.length hout2
            rw [List.length_append, HOL.out] at hl2
            rw [hout2] at hown7 hnext hlast
            obtain ⟨A7, c7, rfl, -, -, -⟩ := hown7.reads.form
            have HM7 := Lib.hid (HM5.out.callN hb7 (Nat.le_refl B0))
            have HO7 := Lib.hid hown7
            have HL2 := Lib.hid hl2
            clear hown7 hb7 hout2 hl2
            go_wp2
            go_roundw
            case rel => exact ⟨2, cd, out2, ⟨by first | rfl | go_num, by omega, HDL.out, by have := HL2.out; omega⟩, hnext, (fun h => hlast.out (by first | exact h | trivial)), HS5.out, HO7.out, HM7.out⟩
            case measure => simp [intOf]
          · by_cases h4 : C < 400
            · have g250 : ((C : Int) == 250) = false := by simp; omega
              have f250 : (C == 250) = false := by simp; omega
              have hres : R = (outL ++ quitL, 0) := by have := HNE.out; rw [D1.out, exc_bad _ _ _ _ _ (by simp; omega), if_pos h4] at this; exact this.symm
              have d4 : decide (C < 400) = true := decide_eq_true h4
              have d4' : decide ((C : Int) < 400) = true := decide_eq_true (by omega)
              subst hres
              clear hC HNE h4
              go_wp2_with fail
              refine HQR.out.mono ?_
              rintro e w5 ⟨u5, rfl, hsu, hb5⟩
              have hsu0 := hsu _ HSB0.out
              obtain ⟨A5, c5, rfl, -, -, -⟩ := hsu0.form
              have HS5 := Lib.hid hsu0
              have HO5 := Lib.hid (hown.out.below hb5)
              have HM5 := Lib.hid (hmi.out.call hb5)
              clear hsu hsu0 hb5
              go_wp2_with (at_builtin; refine wpB_appendS rfl _ _ rfl B0 _ outL quitL ⟨#[81, 85, 73, 84, 13, 10]⟩ rfl HO5.out rfl rfl (by have := HOL.out; have : quitL.length = 6 := rfl; omega) HM5.out.le ?_)
              intro v7 w7 hown7 _ hb7
              have HM7 := Lib.hid (HM5.out.callN hb7 (Nat.le_refl B0))
              have HO7 := Lib.hid hown7
              clear hown7 hb7
              go_wp2
              go_ret2
              exact ⟨_, rfl, OB.mono (HO7.out) HBB.out, HBW.out.trans ((HM7.out).bel.mono HBB.out)⟩
            · have g250 : ((C : Int) == 250) = false := by simp; omega
              have f250 : (C == 250) = false := by simp; omega
              have hres : R = (outL ++ quitL, C) := by have := HNE.out; rw [D1.out, exc_bad _ _ _ _ _ (by simp; omega), if_neg h4] at this; exact this.symm
              have d4 : decide (C < 400) = false := decide_eq_false h4
              have d4' : decide ((C : Int) < 400) = false := decide_eq_false (by omega)
              subst hres
              clear hC HNE h4
              go_wp2_with fail
              refine HQR.out.mono ?_
              rintro e w5 ⟨u5, rfl, hsu, hb5⟩
              have hsu0 := hsu _ HSB0.out
              obtain ⟨A5, c5, rfl, -, -, -⟩ := hsu0.form
              have HS5 := Lib.hid hsu0
              have HO5 := Lib.hid (hown.out.below hb5)
              have HM5 := Lib.hid (hmi.out.call hb5)
              clear hsu hsu0 hb5
              go_wp2_with (at_builtin; refine wpB_appendS rfl _ _ rfl B0 _ outL quitL ⟨#[81, 85, 73, 84, 13, 10]⟩ rfl HO5.out rfl rfl (by have := HOL.out; have : quitL.length = 6 := rfl; omega) HM5.out.le ?_)
              intro v7 w7 hown7 _ hb7
              have HM7 := Lib.hid (HM5.out.callN hb7 (Nat.le_refl B0))
              have HO7 := Lib.hid hown7
              clear hown7 hb7
              go_wp2
              go_ret2
              exact ⟨_, rfl, OB.mono (HO7.out) HBB.out, HBW.out.trans ((HM7.out).bel.mono HBB.out)⟩
      · have HE : Hid (exc (st.drop 2) (rps cur) outL = R) := HEX.out (by omega)
        have hck : wr.cell? ⟨G, 2, none⟩ = some (.string S2) := HROW1.out.cell 2
        clear HEX hex6 HROW1
        cases is with
        | false =>
          have hres : R = (outL, 0) := by have := HE.out; rw [HNO.out rfl, exc_nil] at this; exact this.symm
          subst hres
          clear HE
          go_wp2_with fail
          refine HQR.out.mono ?_
          rintro e w5 ⟨u5, rfl, hsu, hb5⟩
          have hsu0 := hsu _ HSB0.out
          obtain ⟨A5, c5, rfl, -, -, -⟩ := hsu0.form
          have HS5 := Lib.hid hsu0
          have HO5 := Lib.hid (hown.out.below hb5)
          have HM5 := Lib.hid (hmi.out.call hb5)
          clear hsu hsu0 hb5
          go_wp2
          go_ret2
          exact ⟨_, rfl, OB.mono (HO5.out) HBB.out, HBW.out.trans ((HM5.out).bel.mono HBB.out)⟩
        | true =>
          obtain ⟨hrps, hc2, hc5⟩ := HSO.out rfl
          have hne := HE.out
          rw [hrps] at hne
          have HNE := Lib.hid hne
          clear HE hrps hne
          by_cases hC : C = 250
          · have g250 : ((C : Int) == 250) = true := by simp; omega
            have f250 : (C == 250) = true := by simp; omega
            have hnext : Hid (3 < 6 → exc (st.drop 3) (rps (cd)) (outL ++ E2) = R) := fun _ => by have := HNE.out; rw [D2.out, D3.out, exc_ok _ _ _ _ _ _ (by simp; omega), ← D3.out] at this; exact this
            have hlast : Hid (3 = 6 → R = (outL ++ E2, 250)) := fun h => absurd h (by decide)
            clear hC HNE
            go_wp2_with fail
            refine HQR.out.mono ?_
            rintro e w5 ⟨u5, rfl, hsu, hb5⟩
            have hsu0 := hsu _ HSB0.out
            obtain ⟨A5, c5, rfl, -, -, -⟩ := hsu0.form
            have HS5 := Lib.hid hsu0
            have HO5 := Lib.hid (hown.out.below hb5)
            have HM5 := Lib.hid (hmi.out.call hb5)
            clear hsu hsu0 hb5
            go_wp2_with (at_builtin; refine wpB_appendS rfl _ _ rfl B0 _ outL E2 T2 rfl HO5.out rfl M2.out (by have := HOL.out; omega) HM5.out.le ?_)
            intro v7 w7 hown7 _ hb7
            obtain ⟨out2, hout2⟩ : ∃ q, outL ++ E2 = q := ⟨_, rfl⟩
            have hl2 := congrArg List.length hout2
            rw [List.length_append, HOL.out] at hl2
            rw [hout2] at hown7 hnext hlast
            obtain ⟨A7, c7, rfl, -, -, -⟩ := hown7.reads.form
            have HM7 := Lib.hid (HM5.out.callN hb7 (Nat.le_refl B0))
            have HO7 := Lib.hid hown7
            have HL2 := Lib.hid hl2
            clear hown7 hb7 hout2 hl2
            go_wp2
            go_roundw
            case rel => exact ⟨3, cd, out2, ⟨by first | rfl | go_num, by omega, HDL.out, by have := HL2.out; omega⟩, hnext, (fun h => hlast.out (by first | exact h | trivial)), HS5.out, HO7.out, HM7.out⟩
            case measure => simp [intOf]
          · by_cases h4 : C < 400
            · have g250 : ((C : Int) == 250) = false := by simp; omega
              have f250 : (C == 250) = false := by simp; omega
              have hres : R = (outL ++ quitL, 0) := by have := HNE.out; rw [D2.out, exc_bad _ _ _ _ _ (by simp; omega), if_pos h4] at this; exact this.symm
              have d4 : decide (C < 400) = true := decide_eq_true h4
              have d4' : decide ((C : Int) < 400) = true := decide_eq_true (by omega)
              subst hres
              clear hC HNE h4
              go_wp2_with fail
              refine HQR.out.mono ?_
              rintro e w5 ⟨u5, rfl, hsu, hb5⟩
              have hsu0 := hsu _ HSB0.out
              obtain ⟨A5, c5, rfl, -, -, -⟩ := hsu0.form
              have HS5 := Lib.hid hsu0
              have HO5 := Lib.hid (hown.out.below hb5)
              have HM5 := Lib.hid (hmi.out.call hb5)
              clear hsu hsu0 hb5
              go_wp2_with (at_builtin; refine wpB_appendS rfl _ _ rfl B0 _ outL quitL ⟨#[81, 85, 73, 84, 13, 10]⟩ rfl HO5.out rfl rfl (by have := HOL.out; have : quitL.length = 6 := rfl; omega) HM5.out.le ?_)
              intro v7 w7 hown7 _ hb7
              have HM7 := Lib.hid (HM5.out.callN hb7 (Nat.le_refl B0))
              have HO7 := Lib.hid hown7
              clear hown7 hb7
              go_wp2
              go_ret2
              exact ⟨_, rfl, OB.mono (HO7.out) HBB.out, HBW.out.trans ((HM7.out).bel.mono HBB.out)⟩
            · have g250 : ((C : Int) == 250) = false := by simp; omega
              have f250 : (C == 250) = false := by simp; omega
              have hres : R = (outL ++ quitL, C) := by have := HNE.out; rw [D2.out, exc_bad _ _ _ _ _ (by simp; omega), if_neg h4] at this; exact this.symm
              have d4 : decide (C < 400) = false := decide_eq_false h4
              have d4' : decide ((C : Int) < 400) = false := decide_eq_false (by omega)
              subst hres
              clear hC HNE h4
              go_wp2_with fail
              refine HQR.out.mono ?_
              rintro e w5 ⟨u5, rfl, hsu, hb5⟩
              have hsu0 := hsu _ HSB0.out
              obtain ⟨A5, c5, rfl, -, -, -⟩ := hsu0.form
              have HS5 := Lib.hid hsu0
              have HO5 := Lib.hid (hown.out.below hb5)
              have HM5 := Lib.hid (hmi.out.call hb5)
              clear hsu hsu0 hb5
              go_wp2_with (at_builtin; refine wpB_appendS rfl _ _ rfl B0 _ outL quitL ⟨#[81, 85, 73, 84, 13, 10]⟩ rfl HO5.out rfl rfl (by have := HOL.out; have : quitL.length = 6 := rfl; omega) HM5.out.le ?_)
              intro v7 w7 hown7 _ hb7
              have HM7 := Lib.hid (HM5.out.callN hb7 (Nat.le_refl B0))
              have HO7 := Lib.hid hown7
              clear hown7 hb7
              go_wp2
              go_ret2
              exact ⟨_, rfl, OB.mono (HO7.out) HBB.out, HBW.out.trans ((HM7.out).bel.mono HBB.out)⟩
      · have HE : Hid (exc (st.drop 3) (rps cur) outL = R) := HEX.out (by omega)
        have hck : wr.cell? ⟨G, 3, none⟩ = some (.string ⟨#[68, 65, 84, 65]⟩) := HROW1.out.cell 3
        clear HEX hex6 HROW1
        cases is with
        | false =>
          have hres : R = (outL, 0) := by have := HE.out; rw [HNO.out rfl, exc_nil] at this; exact this.symm
          subst hres
          clear HE
          go_wp2_with fail
          refine HQR.out.mono ?_
          rintro e w5 ⟨u5, rfl, hsu, hb5⟩
          have hsu0 := hsu _ HSB0.out
          obtain ⟨A5, c5, rfl, -, -, -⟩ := hsu0.form
          have HS5 := Lib.hid hsu0
          have HO5 := Lib.hid (hown.out.below hb5)
          have HM5 := Lib.hid (hmi.out.call hb5)
          clear hsu hsu0 hb5
          go_wp2
          go_ret2
          exact ⟨_, rfl, OB.mono (HO5.out) HBB.out, HBW.out.trans ((HM5.out).bel.mono HBB.out)⟩
        | true =>
          obtain ⟨hrps, hc2, hc5⟩ := HSO.out rfl
          have hne := HE.out
          rw [hrps] at hne
          have HNE := Lib.hid hne
          clear HE hrps hne
          rcases (by omega : C = 250 ∨ C = 251 ∨ (C ≠ 250 ∧ C ≠ 251)) with hC | hC | hC
          · have g250 : ((C : Int) == 250) = true := by simp; omega
            have f250 : (C == 250) = true := by simp; omega
            have hnext : Hid (4 < 6 → exc (st.drop 4) (rps (cd)) (outL ++ dataL) = R) := fun _ => by have := HNE.out; rw [D3.out, D4.out, exc_ok _ _ _ _ _ _ (by simp; omega), ← D4.out] at this; exact this
            have hlast : Hid (4 = 6 → R = (outL ++ dataL, 250)) := fun h => absurd h (by decide)
            clear hC HNE
            go_wp2_with fail
            refine HQR.out.mono ?_
            rintro e w5 ⟨u5, rfl, hsu, hb5⟩
            have hsu0 := hsu _ HSB0.out
            obtain ⟨A5, c5, rfl, -, -, -⟩ := hsu0.form
            have HS5 := Lib.hid hsu0
            have HO5 := Lib.hid (hown.out.below hb5)
            have HM5 := Lib.hid (hmi.out.call hb5)
            clear hsu hsu0 hb5
            go_wp2_with (at_builtin; refine wpB_appendS rfl _ _ rfl B0 _ outL dataL T3 rfl HO5.out rfl M3.out (by have := HOL.out; have : dataL.length = 6 := rfl; omega) HM5.out.le ?_)
            intro v7 w7 hown7 _ hb7
            obtain ⟨out2, hout2⟩ : ∃ q, outL ++ dataL = q := ⟨_, rfl⟩
            have hl2 := congrArg List.length hout2
            rw [List.length_append, HOL.out] at hl2
            rw [hout2] at hown7 hnext hlast
            obtain ⟨A7, c7, rfl, -, -, -⟩ := hown7.reads.form
            have HM7 := Lib.hid (HM5.out.callN hb7 (Nat.le_refl B0))
            have HO7 := Lib.hid hown7
            have HL2 := Lib.hid hl2
            clear hown7 hb7 hout2 hl2
            go_wp2
            go_roundw
            case rel => exact ⟨4, cd, out2, ⟨by first | rfl | go_num, by omega, HDL.out, by have := HL2.out; have : dataL.length = 6 := rfl; omega⟩, hnext, (fun h => hlast.out (by first | exact h | trivial)), HS5.out, HO7.out, HM7.out⟩
            case measure => simp [intOf]
          · have g250 : ((C : Int) == 250) = false := by simp; omega
            have f250 : (C == 250) = false := by simp; omega
            have g251 : ((C : Int) == 251) = true := by simp; omega
            have f251 : (C == 251) = true := by simp; omega
            have hnext : Hid (4 < 6 → exc (st.drop 4) (rps (cd)) (outL ++ dataL) = R) := fun _ => by have := HNE.out; rw [D3.out, D4.out, exc_ok _ _ _ _ _ _ (by simp; omega), ← D4.out] at this; exact this
            have hlast : Hid (4 = 6 → R = (outL ++ dataL, 250)) := fun h => absurd h (by decide)
            clear hC HNE
            go_wp2_with fail
            refine HQR.out.mono ?_
            rintro e w5 ⟨u5, rfl, hsu, hb5⟩
            have hsu0 := hsu _ HSB0.out
            obtain ⟨A5, c5, rfl, -, -, -⟩ := hsu0.form
            have HS5 := Lib.hid hsu0
            have HO5 := Lib.hid (hown.out.below hb5)
            have HM5 := Lib.hid (hmi.out.call hb5)
            clear hsu hsu0 hb5
            go_wp2_with (at_builtin; refine wpB_appendS rfl _ _ rfl B0 _ outL dataL T3 rfl HO5.out rfl M3.out (by have := HOL.out; have : dataL.length = 6 := rfl; omega) HM5.out.le ?_)
            intro v7 w7 hown7 _ hb7
            obtain ⟨out2, hout2⟩ : ∃ q, outL ++ dataL = q := ⟨_, rfl⟩
            have hl2 := congrArg List.length hout2
            rw [List.length_append, HOL.out] at hl2
            rw [hout2] at hown7 hnext hlast
            obtain ⟨A7, c7, rfl, -, -, -⟩ := hown7.reads.form
            have HM7 := Lib.hid (HM5.out.callN hb7 (Nat.le_refl B0))
            have HO7 := Lib.hid hown7
            have HL2 := Lib.hid hl2
            clear hown7 hb7 hout2 hl2
            go_wp2
            go_roundw
            case rel => exact ⟨4, cd, out2, ⟨by first | rfl | go_num, by omega, HDL.out, by have := HL2.out; have : dataL.length = 6 := rfl; omega⟩, hnext, (fun h => hlast.out (by first | exact h | trivial)), HS5.out, HO7.out, HM7.out⟩
            case measure => simp [intOf]
          · by_cases h4 : C < 400
            · have g250 : ((C : Int) == 250) = false := by simp; omega
              have f250 : (C == 250) = false := by simp; omega
              have g251 : ((C : Int) == 251) = false := by simp; omega
              have f251 : (C == 251) = false := by simp; omega
              have hres : R = (outL ++ quitL, 0) := by have := HNE.out; rw [D3.out, exc_bad _ _ _ _ _ (by simp; omega), if_pos h4] at this; exact this.symm
              have d4 : decide (C < 400) = true := decide_eq_true h4
              have d4' : decide ((C : Int) < 400) = true := decide_eq_true (by omega)
              subst hres
              clear hC HNE h4
              go_wp2_with fail
              refine HQR.out.mono ?_
              rintro e w5 ⟨u5, rfl, hsu, hb5⟩
              have hsu0 := hsu _ HSB0.out
              obtain ⟨A5, c5, rfl, -, -, -⟩ := hsu0.form
              have HS5 := Lib.hid hsu0
              have HO5 := Lib.hid (hown.out.below hb5)
              have HM5 := Lib.hid (hmi.out.call hb5)
              clear hsu hsu0 hb5
              go_wp2_with (at_builtin; refine wpB_appendS rfl _ _ rfl B0 _ outL quitL ⟨#[81, 85, 73, 84, 13, 10]⟩ rfl HO5.out rfl rfl (by have := HOL.out; have : quitL.length = 6 := rfl; omega) HM5.out.le ?_)
              intro v7 w7 hown7 _ hb7
              have HM7 := Lib.hid (HM5.out.callN hb7 (Nat.le_refl B0))
              have HO7 := Lib.hid hown7
              clear hown7 hb7
              go_wp2
              go_ret2
              exact ⟨_, rfl, OB.mono (HO7.out) HBB.out, HBW.out.trans ((HM7.out).bel.mono HBB.out)⟩
            · have g250 : ((C : Int) == 250) = false := by simp; omega
              have f250 : (C == 250) = false := by simp; omega
              have g251 : ((C : Int) == 251) = false := by simp; omega
              have f251 : (C == 251) = false := by simp; omega
              have hres : R = (outL ++ quitL, C) := by have := HNE.out; rw [D3.out, exc_bad _ _ _ _ _ (by simp; omega), if_neg h4] at this; exact this.symm
              have d4 : decide (C < 400) = false := decide_eq_false h4
              have d4' : decide ((C : Int) < 400) = false := decide_eq_false (by omega)
              subst hres
              clear hC HNE h4
              go_wp2_with fail
              refine HQR.out.mono ?_
              rintro e w5 ⟨u5, rfl, hsu, hb5⟩
              have hsu0 := hsu _ HSB0.out
              obtain ⟨A5, c5, rfl, -, -, -⟩ := hsu0.form
              have HS5 := Lib.hid hsu0
              have HO5 := Lib.hid (hown.out.below hb5)
              have HM5 := Lib.hid (hmi.out.call hb5)
              clear hsu hsu0 hb5
              go_wp2_with (at_builtin; refine wpB_appendS rfl _ _ rfl B0 _ outL quitL ⟨#[81, 85, 73, 84, 13, 10]⟩ rfl HO5.out rfl rfl (by have := HOL.out; have : quitL.length = 6 := rfl; omega) HM5.out.le ?_)
              intro v7 w7 hown7 _ hb7
              have HM7 := Lib.hid (HM5.out.callN hb7 (Nat.le_refl B0))
              have HO7 := Lib.hid hown7
              clear hown7 hb7
              go_wp2
              go_ret2
              exact ⟨_, rfl, OB.mono (HO7.out) HBB.out, HBW.out.trans ((HM7.out).bel.mono HBB.out)⟩
      · have HE : Hid (exc (st.drop 4) (rps cur) outL = R) := HEX.out (by omega)
        have hck : wr.cell? ⟨G, 4, none⟩ = some (.string ⟨#[]⟩) := HROW1.out.cell 4
        clear HEX hex6 HROW1
        cases is with
        | false =>
          have hres : R = (outL, 0) := by have := HE.out; rw [HNO.out rfl, exc_nil] at this; exact this.symm
          subst hres
          clear HE
          go_wp2_with fail
          refine HQR.out.mono ?_
          rintro e w5 ⟨u5, rfl, hsu, hb5⟩
          have hsu0 := hsu _ HSB0.out
          obtain ⟨A5, c5, rfl, -, -, -⟩ := hsu0.form
          have HS5 := Lib.hid hsu0
          have HO5 := Lib.hid (hown.out.below hb5)
          have HM5 := Lib.hid (hmi.out.call hb5)
          clear hsu hsu0 hb5
          go_wp2
          go_ret2
          exact ⟨_, rfl, OB.mono (HO5.out) HBB.out, HBW.out.trans ((HM5.out).bel.mono HBB.out)⟩
        | true =>
          obtain ⟨hrps, hc2, hc5⟩ := HSO.out rfl
          have hne := HE.out
          rw [hrps] at hne
          have HNE := Lib.hid hne
          clear HE hrps hne
          by_cases hC : C = 354
          · obtain ⟨bb, hbb⟩ : ∃ bb, ((C : Int) == 250) = bb := ⟨_, rfl⟩
            obtain ⟨bb2, hbb2⟩ : ∃ bb, (C == 250) = bb := ⟨_, rfl⟩
            have g354 : ((C : Int) == 354) = true := by simp; omega
            have f354 : (C == 354) = true := by simp; omega
            have hnext : Hid (5 < 6 → exc (st.drop 5) (rps (cd)) (outL ++ E4) = R) := fun _ => by have := HNE.out; rw [D4.out, D5.out, exc_ok _ _ _ _ _ _ (by simp; omega), ← D5.out] at this; exact this
            have hlast : Hid (5 = 6 → R = (outL ++ E4, 250)) := fun h => absurd h (by decide)
            clear hC HNE
            go_wp2_with fail
            refine HQR.out.mono ?_
            rintro e w5 ⟨u5, rfl, hsu, hb5⟩
            have hsu0 := hsu _ HSB0.out
            obtain ⟨A5, c5, rfl, -, -, -⟩ := hsu0.form
            have HS5 := Lib.hid hsu0
            have HO5 := Lib.hid (hown.out.below hb5)
            have HM5 := Lib.hid (hmi.out.call hb5)
            clear hsu hsu0 hb5
            have hqs := qstuff_any (.slice Ab nb cb) b w5 (by rw [HNB.out]; omega) (HB.out.below (HBW.out.trans (HM5.out.bel.mono HBB.out)))
            have HQS := Lib.hid hqs
            clear hqs
            go_wp2_with fail
            refine HQS.out.mono ?_
            rintro e w6 ⟨u6, rfl, ho6, hb6⟩
            rw [HE4.out] at ho6
            obtain ⟨A6, c6, rfl, -, -, -⟩ := ho6.reads.form
            have HO6 := Lib.hid (HO5.out.below hb6)
            have HM6 := Lib.hid (HM5.out.call hb6)
            have HU6 := Lib.hid ho6.reads
            clear ho6 hb6
            go_wp2_with (at_builtin; refine wpB_append rfl _ _ rfl B0 _ _ outL E4 rfl HO6.out rfl HU6.out (by have := HOL.out; omega) HM6.out.le ?_)
            intro v7 w7 hown7 _ hb7
            obtain ⟨out2, hout2⟩ : ∃ q, outL ++ E4 = q := ⟨_, rfl⟩
            have hl2 := congrArg List.length hout2
            rw [List.length_append, HOL.out] at hl2
            rw [hout2] at hown7 hnext hlast
            obtain ⟨A7, c7, rfl, -, -, -⟩ := hown7.reads.form
            have HM7 := Lib.hid (HM6.out.callN hb7 (Nat.le_refl B0))
            have HO7 := Lib.hid hown7
            have HL2 := Lib.hid hl2
            clear hown7 hb7 hout2 hl2
            go_wp2
            go_roundw
            case rel => exact ⟨5, cd, out2, ⟨by first | rfl | go_num, by omega, HDL.out, by have := HL2.out; omega⟩, hnext, (fun h => hlast.out (by first | exact h | trivial)), HS5.out, HO7.out, HM7.out⟩
            case measure => simp [intOf]
          · by_cases h4 : C < 400
            · obtain ⟨bb, hbb⟩ : ∃ bb, ((C : Int) == 250) = bb := ⟨_, rfl⟩
              obtain ⟨bb2, hbb2⟩ : ∃ bb, (C == 250) = bb := ⟨_, rfl⟩
              have g354 : ((C : Int) == 354) = false := by simp; omega
              have f354 : (C == 354) = false := by simp; omega
              have hres : R = (outL ++ quitL, 0) := by have := HNE.out; rw [D4.out, exc_bad _ _ _ _ _ (by simp; omega), if_pos h4] at this; exact this.symm
              have d4 : decide (C < 400) = true := decide_eq_true h4
              have d4' : decide ((C : Int) < 400) = true := decide_eq_true (by omega)
              subst hres
              clear hC HNE h4
              go_wp2_with fail
              refine HQR.out.mono ?_
              rintro e w5 ⟨u5, rfl, hsu, hb5⟩
              have hsu0 := hsu _ HSB0.out
              obtain ⟨A5, c5, rfl, -, -, -⟩ := hsu0.form
              have HS5 := Lib.hid hsu0
              have HO5 := Lib.hid (hown.out.below hb5)
              have HM5 := Lib.hid (hmi.out.call hb5)
              clear hsu hsu0 hb5
              go_wp2_with (at_builtin; refine wpB_appendS rfl _ _ rfl B0 _ outL quitL ⟨#[81, 85, 73, 84, 13, 10]⟩ rfl HO5.out rfl rfl (by have := HOL.out; have : quitL.length = 6 := rfl; omega) HM5.out.le ?_)
              intro v7 w7 hown7 _ hb7
              have HM7 := Lib.hid (HM5.out.callN hb7 (Nat.le_refl B0))
              have HO7 := Lib.hid hown7
              clear hown7 hb7
              go_wp2
              go_ret2
              exact ⟨_, rfl, OB.mono (HO7.out) HBB.out, HBW.out.trans ((HM7.out).bel.mono HBB.out)⟩
            · obtain ⟨bb, hbb⟩ : ∃ bb, ((C : Int) == 250) = bb := ⟨_, rfl⟩
              obtain ⟨bb2, hbb2⟩ : ∃ bb, (C == 250) = bb := ⟨_, rfl⟩
              have g354 : ((C : Int) == 354) = false := by simp; omega
              have f354 : (C == 354) = false := by simp; omega
              have hres : R = (outL ++ quitL, C) := by have := HNE.out; rw [D4.out, exc_bad _ _ _ _ _ (by simp; omega), if_neg h4] at this; exact this.symm
              have d4 : decide (C < 400) = false := decide_eq_false h4
              have d4' : decide ((C : Int) < 400) = false := decide_eq_false (by omega)
              subst hres
              clear hC HNE h4
              go_wp2_with fail
              refine HQR.out.mono ?_
              rintro e w5 ⟨u5, rfl, hsu, hb5⟩
              have hsu0 := hsu _ HSB0.out
              obtain ⟨A5, c5, rfl, -, -, -⟩ := hsu0.form
              have HS5 := Lib.hid hsu0
              have HO5 := Lib.hid (hown.out.below hb5)
              have HM5 := Lib.hid (hmi.out.call hb5)
              clear hsu hsu0 hb5
              go_wp2_with (at_builtin; refine wpB_appendS rfl _ _ rfl B0 _ outL quitL ⟨#[81, 85, 73, 84, 13, 10]⟩ rfl HO5.out rfl rfl (by have := HOL.out; have : quitL.length = 6 := rfl; omega) HM5.out.le ?_)
              intro v7 w7 hown7 _ hb7
              have HM7 := Lib.hid (HM5.out.callN hb7 (Nat.le_refl B0))
              have HO7 := Lib.hid hown7
              clear hown7 hb7
              go_wp2
              go_ret2
              exact ⟨_, rfl, OB.mono (HO7.out) HBB.out, HBW.out.trans ((HM7.out).bel.mono HBB.out)⟩
      · have HE : Hid (exc (st.drop 5) (rps cur) outL = R) := HEX.out (by omega)
        have hck : wr.cell? ⟨G, 5, none⟩ = some (.string ⟨#[81, 85, 73, 84]⟩) := HROW1.out.cell 5
        clear HEX hex6 HROW1
        cases is with
        | false =>
          have hres : R = (outL, 0) := by have := HE.out; rw [HNO.out rfl, exc_nil] at this; exact this.symm
          subst hres
          clear HE
          go_wp2_with fail
          refine HQR.out.mono ?_
          rintro e w5 ⟨u5, rfl, hsu, hb5⟩
          have hsu0 := hsu _ HSB0.out
          obtain ⟨A5, c5, rfl, -, -, -⟩ := hsu0.form
          have HS5 := Lib.hid hsu0
          have HO5 := Lib.hid (hown.out.below hb5)
          have HM5 := Lib.hid (hmi.out.call hb5)
          clear hsu hsu0 hb5
          go_wp2
          go_ret2
          exact ⟨_, rfl, OB.mono (HO5.out) HBB.out, HBW.out.trans ((HM5.out).bel.mono HBB.out)⟩
        | true =>
          obtain ⟨hrps, hc2, hc5⟩ := HSO.out rfl
          have hne := HE.out
          rw [hrps] at hne
          have HNE := Lib.hid hne
          clear HE hrps hne
          by_cases hC : C = 250
          · have g250 : ((C : Int) == 250) = true := by simp; omega
            have f250 : (C == 250) = true := by simp; omega
            have hlast : Hid (5 + 1 = 6 → R = (outL ++ quitL, 250)) := fun _ => by have := HNE.out; rw [D5.out, exc_last _ _ _ _ (by simp; omega), hC] at this; exact this.symm
            have hnext : Hid (6 < 6 → exc (st.drop 6) (rps (cd)) (outL ++ quitL) = R) := fun h => absurd h (by decide)
            clear hC HNE
            go_wp2_with fail
            refine HQR.out.mono ?_
            rintro e w5 ⟨u5, rfl, hsu, hb5⟩
            have hsu0 := hsu _ HSB0.out
            obtain ⟨A5, c5, rfl, -, -, -⟩ := hsu0.form
            have HS5 := Lib.hid hsu0
            have HO5 := Lib.hid (hown.out.below hb5)
            have HM5 := Lib.hid (hmi.out.call hb5)
            clear hsu hsu0 hb5
            go_wp2_with (at_builtin; refine wpB_appendS rfl _ _ rfl B0 _ outL quitL T5 rfl HO5.out rfl M5.out (by have := HOL.out; have : quitL.length = 6 := rfl; omega) HM5.out.le ?_)
            intro v7 w7 hown7 _ hb7
            obtain ⟨out2, hout2⟩ : ∃ q, outL ++ quitL = q := ⟨_, rfl⟩
            have hl2 := congrArg List.length hout2
            rw [List.length_append, HOL.out] at hl2
            rw [hout2] at hown7 hnext hlast
            obtain ⟨A7, c7, rfl, -, -, -⟩ := hown7.reads.form
            have HM7 := Lib.hid (HM5.out.callN hb7 (Nat.le_refl B0))
            have HO7 := Lib.hid hown7
            have HL2 := Lib.hid hl2
            clear hown7 hb7 hout2 hl2
            go_wp2
            go_roundw
            case rel => exact ⟨6, cd, out2, ⟨by first | rfl | go_num, by omega, HDL.out, by have := HL2.out; have : quitL.length = 6 := rfl; omega⟩, hnext, (fun h => hlast.out (by first | exact h | trivial)), HS5.out, HO7.out, HM7.out⟩
            case measure => simp [intOf]
          · by_cases h4 : C < 400
            · have g250 : ((C : Int) == 250) = false := by simp; omega
              have f250 : (C == 250) = false := by simp; omega
              have hres : R = (outL ++ quitL, 0) := by have := HNE.out; rw [D5.out, exc_bad _ _ _ _ _ (by simp; omega), if_pos h4] at this; exact this.symm
              have d4 : decide (C < 400) = true := decide_eq_true h4
              have d4' : decide ((C : Int) < 400) = true := decide_eq_true (by omega)
              subst hres
              clear hC HNE h4
              go_wp2_with fail
              refine HQR.out.mono ?_
              rintro e w5 ⟨u5, rfl, hsu, hb5⟩
              have hsu0 := hsu _ HSB0.out
              obtain ⟨A5, c5, rfl, -, -, -⟩ := hsu0.form
              have HS5 := Lib.hid hsu0
              have HO5 := Lib.hid (hown.out.below hb5)
              have HM5 := Lib.hid (hmi.out.call hb5)
              clear hsu hsu0 hb5
              go_wp2_with (at_builtin; refine wpB_appendS rfl _ _ rfl B0 _ outL quitL ⟨#[81, 85, 73, 84, 13, 10]⟩ rfl HO5.out rfl rfl (by have := HOL.out; have : quitL.length = 6 := rfl; omega) HM5.out.le ?_)
              intro v7 w7 hown7 _ hb7
              have HM7 := Lib.hid (HM5.out.callN hb7 (Nat.le_refl B0))
              have HO7 := Lib.hid hown7
              clear hown7 hb7
              go_wp2
              go_ret2
              exact ⟨_, rfl, OB.mono (HO7.out) HBB.out, HBW.out.trans ((HM7.out).bel.mono HBB.out)⟩
            · have g250 : ((C : Int) == 250) = false := by simp; omega
              have f250 : (C == 250) = false := by simp; omega
              have hres : R = (outL ++ quitL, C) := by have := HNE.out; rw [D5.out, exc_bad _ _ _ _ _ (by simp; omega), if_neg h4] at this; exact this.symm
              have d4 : decide (C < 400) = false := decide_eq_false h4
              have d4' : decide ((C : Int) < 400) = false := decide_eq_false (by omega)
              subst hres
              clear hC HNE h4
              go_wp2_with fail
              refine HQR.out.mono ?_
              rintro e w5 ⟨u5, rfl, hsu, hb5⟩
              have hsu0 := hsu _ HSB0.out
              obtain ⟨A5, c5, rfl, -, -, -⟩ := hsu0.form
              have HS5 := Lib.hid hsu0
              have HO5 := Lib.hid (hown.out.below hb5)
              have HM5 := Lib.hid (hmi.out.call hb5)
              clear hsu hsu0 hb5
              go_wp2_with (at_builtin; refine wpB_appendS rfl _ _ rfl B0 _ outL quitL ⟨#[81, 85, 73, 84, 13, 10]⟩ rfl HO5.out rfl rfl (by have := HOL.out; have : quitL.length = 6 := rfl; omega) HM5.out.le ?_)
              intro v7 w7 hown7 _ hb7
              have HM7 := Lib.hid (HM5.out.callN hb7 (Nat.le_refl B0))
              have HO7 := Lib.hid hown7
              clear hown7 hb7
              go_wp2
              go_ret2
              exact ⟨_, rfl, OB.mono (HO7.out) HBB.out, HBW.out.trans ((HM7.out).bel.mono HBB.out)⟩
      · have hres : R = (outL, 250) := hex6.out rfl
        subst hres
        clear HEX hex6 HQR HNO HSO
        have HO := Lib.hid hown.out
        have HMM := Lib.hid hmi.out
        clear hown hmi
        go_wp2
        go_ret2
        exact ⟨_, rfl, OB.mono (HO.out) HBB.out, HBW.out.trans ((HMM.out).bel.mono HBB.out)⟩
end Go.Proofs.Ytlgodokgebjjaaa

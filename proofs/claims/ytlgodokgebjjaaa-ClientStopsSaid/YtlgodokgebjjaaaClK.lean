/- The example of law26; its five laws. -/
import Derived.RangeFuncNested
import Derived.RangeFuncBound
import Derived.RangeFuncCalls
import Derived.RangeFuncLeaves
import Derived.Shelf.Abstract
import Derived.Shelf.RegionOpen
import Derived.WalkKit
import Derived.OwnWalkIn
import Derived.TacticsInMore
import Derived.LoopNIn
import Derived.LoopIn
import Derived.Outline
import Derived.Lib.Hide
import Derived.Lib.SliceRun
import Derived.IntWalk
import Derived.WalkLawsBesides
import Derived.WalkSpells
import Derived.Laws.BitsAllLaws
import Derived.Lib.ConvBytes
import Derived.Maps.AppendAt
import Derived.Lib.AppendStr
import Derived.Lib.SlBytesConst
import Derived.Laws.AppendOwnNone
import Derived.Laws.OwnMore
import Derived.Laws.BytesArg
import Derived.Deep.RegionHeld3
import Derived.BigQuiet
import Derived.Deep.RegionLaw
import Derived.Deep.QuietTactic
import Derived.Lib.OthersKept
import Derived.Test.YtlgodokgebjjaaaProg
import Derived.Deep.DeepFit
import Derived.Test.YtlgodokgebjjaaaClH
set_option linter.unusedVariables false
set_option linter.unusedSimpArgs false
namespace Go.Proofs.Ytlgodokgebjjaaa
open Go Go.RowKit Go.Shelf

theorem ML.of_shape {W : World} (h : W.ShapedOpen Try.prog) : ML W := Try.laysM185.s1_3 W h
theorem exL_awake : exL (bl ⟨#[104]⟩) (bl ⟨#[]⟩) (bl ⟨#[97, 64, 98]⟩) [] [53, 53, 52, 32, 110, 111, 13, 10] = (quitL, 554) := by decide +kernel
set_option maxRecDepth 100000 in
set_option maxHeartbeats 2000000 in
theorem awake26_any (w : World) (hml : ML w) : Calls Try.prog 14 #[] w fun e w' => e = .returned (.bool true) ∧ Below w.heap.size w w' := by
  have kc := fun (w : World) (C : Array Value) (n c : Nat) => Lib.run_convert_bytes_const (P := Try.prog) w 22 5 C n c Try.underlying22 Try.underlying5
  have hb0 : Below w.heap.size w (w.alloc (.cells #[.int .u8 53, .int .u8 53, .int .u8 52, .int .u8 32, .int .u8 110, .int .u8 111, .int .u8 13, .int .u8 10] 5 (8, 9))) := (Below.refl _ _).alloc (Nat.le_refl _) _
  have h1 := exchange_any ⟨#[104]⟩ ⟨#[]⟩ ⟨#[97, 64, 98]⟩ (.slice none 0 0) _ [] [53, 53, 52, 32, 110, 111, 13, 10] _ (hml.below hb0) (by decide) (by decide) (by decide) (by simp) (by simp) (.inl ⟨rfl, rfl⟩) (SB_mark w #[.int .u8 53, .int .u8 53, .int .u8 52, .int .u8 32, .int .u8 110, .int .u8 111, .int .u8 13, .int .u8 10] [53, 53, 52, 32, 110, 111, 13, 10] 8 (8, 9) rfl (by simp) rfl)
  rw [exL_awake] at h1
  have H1 := Lib.hid h1
  have HB0 := Lib.hid hb0
  clear h1 hb0
  go_enter Try.func14, Try.ntmps14
  go_wp2_with fail
  refine H1.out.mono ?_
  rintro e w1 ⟨u, rfl, ho, hb1⟩
  have hcv := ho.reads.str
  have HB1 := Lib.hid (HB0.out.trans (hb1.mono HB0.out.size))
  have hq : (⟨quitL.toArray⟩ : ByteArray) = ⟨#[81, 85, 73, 84, 13, 10]⟩ := rfl
  rw [hq] at hcv
  clear hb1 ho
  go_wp2_with fail
  refine (final_any 250 _).mono ?_
  rintro e w2 ⟨rfl, rfl⟩
  go_wp2
  go_ret
  exact ⟨rfl, HB1.out⟩
theorem str_beq (xs ys : List UInt8) (h : xs = ys) : ((⟨xs.toArray⟩ : ByteArray).toList == (⟨ys.toArray⟩ : ByteArray).toList) = true := by subst h; simp
set_option maxRecDepth 100000 in
set_option maxHeartbeats 2000000 in
theorem clientReplies_walk (v : Value) (l : List UInt8) (w : World) (hml : ML w) (h : SB w v l) :
    Calls Try.prog 7 #[v] w fun e w' => e = .returned (.bool true) ∧ Below w.heap.size w w' := by
  obtain ⟨A, c, rfl, -, -, -⟩ := h.form
  obtain ⟨L, hL⟩ : ∃ L, l.length = L := ⟨_, rfl⟩
  have HL := Lib.hid hL
  have HS := Lib.hid h
  have hA := awake26_any w hml
  have HA := Lib.hid hA
  have HML := Lib.hid hml
  rw [hL] at HS ⊢
  clear h hA hL hml
  by_cases hs : 2000 < L
  · have d0 : decide (2000 < L) = true := decide_eq_true hs
    have d1 : decide ((2000 : Int) < (L : Int)) = true := decide_eq_true (by omega)
    go_enter Try.func7, Try.ntmps7
    go_wp2_with fail
    refine HA.out.mono ?_
    rintro e w1 ⟨rfl, hb1⟩
    go_wp2
    go_ret
    exact ⟨rfl, hb1⟩
  · have d0 : decide (2000 < L) = false := decide_eq_false hs
    have d1 : decide ((2000 : Int) < (L : Int)) = false := decide_eq_false (by omega)
    go_enter Try.func7, Try.ntmps7
    go_wp2_with fail
    refine HA.out.mono ?_
    rintro e w1 ⟨rfl, hb1⟩
    have h1 := clReply_any _ l w1 (by have := HL.out; omega) (HML.out.below hb1) (HS.out.below hb1)
    have h2 := fun w' (hb : Below w1.heap.size w1 w') => qReply_any _ l w' (by have := HL.out; omega) (HS.out.below (hb1.trans (hb.mono hb1.size)))
    obtain ⟨C, hC⟩ : ∃ C, rpC (rp l) = C := ⟨_, rfl⟩
    obtain ⟨U, hU⟩ : ∃ C, rpU (rp l) = C := ⟨_, rfl⟩
    obtain ⟨is, his⟩ : ∃ C, (rp l).isSome = C := ⟨_, rfl⟩
    rw [hC, hU, his] at h1
    simp only [hC, hU, his] at h2
    have H1 := Lib.hid h1
    have H2 := Lib.hid h2
    have HB1 := Lib.hid hb1
    clear h1 h2 hb1 hC hU his
    go_wp2_with fail
    refine H1.out.mono ?_
    rintro e w2 ⟨u1, rfl, ho1, hb2⟩
    have HO1 := Lib.hid ho1.reads
    have HB2 := Lib.hid hb2
    clear ho1 hb2
    go_wp2_with fail
    refine (H2.out w2 HB2.out).mono ?_
    rintro e w3 ⟨u2, rfl, ho2, hb3⟩
    have hw3 := HB1.out.trans ((HB2.out.trans (hb3.mono HB2.out.size)).mono HB1.out.size)
    have k1 := (HO1.out.below hb3).str
    have k2 := (ho2 w3 (HS.out.below hw3)).str
    have e1 : ((C : Int) == (C : Int)) = true := beq_self_eq_true _
    have e2 : (is == is) = true := beq_self_eq_true _
    obtain ⟨S, hS⟩ : ∃ S : ByteArray, S = ⟨(l.drop U).toArray⟩ := ⟨_, rfl⟩
    rw [← hS] at k1 k2
    have e3 : (S.toList == S.toList) = true := beq_self_eq_true _
    have HW3 := Lib.hid hw3
    clear hS ho2 hb3 hw3 H2
    go_wp2
    go_ret
    exact ⟨by simp, HW3.out⟩
set_option maxRecDepth 100000 in
set_option maxHeartbeats 2000000 in
theorem clientFinals_walk (c : Int) (w : World) (hml : ML w) (hwf : (Lit.int .i64 c).wf = true) :
    Calls Try.prog 4 #[.int .i64 c] w fun e w' => e = .returned (.bool true) ∧ Below w.heap.size w w' := by
  have HA := Lib.hid (awake26_any w hml)
  have hf : finalI c = 250 ∨ (finalI c ≠ 250 ∧ 400 ≤ finalI c ∧ finalI c ≤ 599) := by unfold finalI; split <;> omega
  have H1 := Lib.hid (fun w => final_any c w)
  have H2 := Lib.hid (fun w => qfinal_any c w)
  obtain ⟨q, hq⟩ : ∃ q, finalI c = q := ⟨_, rfl⟩
  rw [hq] at H1 H2 hf
  clear hq hml
  have e1 : (q == q) = true := beq_self_eq_true _
  rcases hf with hf | ⟨hf, h4, h5⟩
  · subst hf
    go_enter Try.func4, Try.ntmps4
    go_wp2_with fail
    refine HA.out.mono ?_
    rintro e w1 ⟨rfl, hb1⟩
    go_wp2_with fail
    refine (H1.out _).mono ?_
    rintro e w2 ⟨rfl, rfl⟩
    go_wp2_with fail
    refine (H2.out _).mono ?_
    rintro e w3 ⟨rfl, rfl⟩
    go_wp2
    go_ret
    exact ⟨rfl, hb1⟩
  · have e2 : (q == 250) = false := beq_eq_false_iff_ne.2 hf
    have e3 : decide (400 ≤ q) = true := decide_eq_true h4
    have e4 : decide (q ≤ 599) = true := decide_eq_true h5
    clear hf h4 h5
    go_enter Try.func4, Try.ntmps4
    go_wp2_with fail
    refine HA.out.mono ?_
    rintro e w1 ⟨rfl, hb1⟩
    go_wp2_with fail
    refine (H1.out _).mono ?_
    rintro e w2 ⟨rfl, rfl⟩
    go_wp2_with fail
    refine (H2.out _).mono ?_
    rintro e w3 ⟨rfl, rfl⟩
    go_wp2
    go_ret
    exact ⟨rfl, hb1⟩
set_option maxRecDepth 100000 in
set_option maxHeartbeats 4000000 in
theorem clientExchanges_walk (h f r : ByteArray) (vb : Value) (b : List UInt8) (vm : Value) (m : List UInt8) (w : World) (hml : ML w) (sh : h.size ≤ maxLen) (sf : f.size ≤ maxLen) (sr : r.size ≤ maxLen) (hb : SB w vb b) (hm : SB w vm m) :
    Calls Try.prog 3 #[.string h, .string f, .string r, vb, vm] w fun e w' => e = .returned (.bool true) ∧ Below w.heap.size w w' := by
  obtain ⟨Ab, cb, rfl, -, -, -⟩ := hb.form
  obtain ⟨Am, cm, rfl, hcm, hcm2, -⟩ := hm.form
  obtain ⟨nb, hnb⟩ : ∃ n, b.length = n := ⟨_, rfl⟩
  obtain ⟨nm, hnm⟩ : ∃ n, m.length = n := ⟨_, rfl⟩
  have HA := Lib.hid (awake26_any w hml)
  have HML := Lib.hid hml
  have HNB := Lib.hid hnb
  have HNM := Lib.hid hnm
  have HB := Lib.hid hb
  have HM := Lib.hid hm
  rw [hnb] at HB ⊢
  rw [hnm] at HM hcm ⊢
  obtain ⟨nh, hnh⟩ : ∃ n, h.size = n := ⟨_, rfl⟩
  obtain ⟨nf, hnf⟩ : ∃ n, f.size = n := ⟨_, rfl⟩
  obtain ⟨nr, hnr⟩ : ∃ n, r.size = n := ⟨_, rfl⟩
  clear hb hm hml hnb hnm
  by_cases hg : (300 < nh) ∨ (400 < nf) ∨ (400 < nr) ∨ (1000 < nb) ∨ (2000 < nm)
  · rcases (by omega : (300 < nh) ∨ (¬ (300 < nh) ∧ 400 < nf) ∨ (¬ (300 < nh) ∧ ¬ (400 < nf) ∧ 400 < nr) ∨ (¬ (300 < nh) ∧ ¬ (400 < nf) ∧ ¬ (400 < nr) ∧ 1000 < nb) ∨ (¬ (300 < nh) ∧ ¬ (400 < nf) ∧ ¬ (400 < nr) ∧ ¬ (1000 < nb) ∧ 2000 < nm)) with hg' | hg' | hg' | hg' | hg'
    · have t0 : decide ((300 : Int) < (nh : Int)) = true := decide_eq_true (by omega)
      have s0 : decide (300 < nh) = true := decide_eq_true (by omega)
      subst hnh hnf hnr
      clear hg hg'
      go_enter Try.func3, Try.ntmps3
      go_wp2_with fail
      refine HA.out.mono ?_
      rintro e w1 ⟨rfl, hb1⟩
      go_wp2
      go_ret
      exact ⟨rfl, hb1⟩
    · have t0 : decide ((300 : Int) < (nh : Int)) = false := decide_eq_false (by omega)
      have s0 : decide (300 < nh) = false := decide_eq_false (by omega)
      have t1 : decide ((400 : Int) < (nf : Int)) = true := decide_eq_true (by omega)
      have s1 : decide (400 < nf) = true := decide_eq_true (by omega)
      subst hnh hnf hnr
      clear hg hg'
      go_enter Try.func3, Try.ntmps3
      go_wp2_with fail
      refine HA.out.mono ?_
      rintro e w1 ⟨rfl, hb1⟩
      go_wp2
      go_ret
      exact ⟨rfl, hb1⟩
    · have t0 : decide ((300 : Int) < (nh : Int)) = false := decide_eq_false (by omega)
      have s0 : decide (300 < nh) = false := decide_eq_false (by omega)
      have t1 : decide ((400 : Int) < (nf : Int)) = false := decide_eq_false (by omega)
      have s1 : decide (400 < nf) = false := decide_eq_false (by omega)
      have t2 : decide ((400 : Int) < (nr : Int)) = true := decide_eq_true (by omega)
      have s2 : decide (400 < nr) = true := decide_eq_true (by omega)
      subst hnh hnf hnr
      clear hg hg'
      go_enter Try.func3, Try.ntmps3
      go_wp2_with fail
      refine HA.out.mono ?_
      rintro e w1 ⟨rfl, hb1⟩
      go_wp2
      go_ret
      exact ⟨rfl, hb1⟩
    · have t0 : decide ((300 : Int) < (nh : Int)) = false := decide_eq_false (by omega)
      have s0 : decide (300 < nh) = false := decide_eq_false (by omega)
      have t1 : decide ((400 : Int) < (nf : Int)) = false := decide_eq_false (by omega)
      have s1 : decide (400 < nf) = false := decide_eq_false (by omega)
      have t2 : decide ((400 : Int) < (nr : Int)) = false := decide_eq_false (by omega)
      have s2 : decide (400 < nr) = false := decide_eq_false (by omega)
      have t3 : decide ((1000 : Int) < (nb : Int)) = true := decide_eq_true (by omega)
      have s3 : decide (1000 < nb) = true := decide_eq_true (by omega)
      subst hnh hnf hnr
      clear hg hg'
      go_enter Try.func3, Try.ntmps3
      go_wp2_with fail
      refine HA.out.mono ?_
      rintro e w1 ⟨rfl, hb1⟩
      go_wp2
      go_ret
      exact ⟨rfl, hb1⟩
    · have t0 : decide ((300 : Int) < (nh : Int)) = false := decide_eq_false (by omega)
      have s0 : decide (300 < nh) = false := decide_eq_false (by omega)
      have t1 : decide ((400 : Int) < (nf : Int)) = false := decide_eq_false (by omega)
      have s1 : decide (400 < nf) = false := decide_eq_false (by omega)
      have t2 : decide ((400 : Int) < (nr : Int)) = false := decide_eq_false (by omega)
      have s2 : decide (400 < nr) = false := decide_eq_false (by omega)
      have t3 : decide ((1000 : Int) < (nb : Int)) = false := decide_eq_false (by omega)
      have s3 : decide (1000 < nb) = false := decide_eq_false (by omega)
      have t4 : decide ((2000 : Int) < (nm : Int)) = true := decide_eq_true (by omega)
      have s4 : decide (2000 < nm) = true := decide_eq_true (by omega)
      subst hnh hnf hnr
      clear hg hg'
      go_enter Try.func3, Try.ntmps3
      go_wp2_with fail
      refine HA.out.mono ?_
      rintro e w1 ⟨rfl, hb1⟩
      go_wp2
      go_ret
      exact ⟨rfl, hb1⟩
  · have t0 : decide ((300 : Int) < (nh : Int)) = false := decide_eq_false (by omega)
    have s0 : decide (300 < nh) = false := decide_eq_false (by omega)
    have t1 : decide ((400 : Int) < (nf : Int)) = false := decide_eq_false (by omega)
    have s1 : decide (400 < nf) = false := decide_eq_false (by omega)
    have t2 : decide ((400 : Int) < (nr : Int)) = false := decide_eq_false (by omega)
    have s2 : decide (400 < nr) = false := decide_eq_false (by omega)
    have t3 : decide ((1000 : Int) < (nb : Int)) = false := decide_eq_false (by omega)
    have s3 : decide (1000 < nb) = false := decide_eq_false (by omega)
    have t4 : decide ((2000 : Int) < (nm : Int)) = false := decide_eq_false (by omega)
    have s4 : decide (2000 < nm) = false := decide_eq_false (by omega)
    have q1 := fun w' (hb1 : Below w.heap.size w w') => exchange_any h f r _ _ b m w' (HML.out.below hb1) (by omega) (by omega) (by omega) (by have := HNB.out; omega) (by have := HNM.out; omega) (HB.out.below hb1) (HM.out.below hb1)
    have q2 := fun w' (hb1 : Below w.heap.size w w') => qExchange_any h f r _ _ b m w' (by omega) (by omega) (by omega) (by have := HNB.out; omega) (by have := HNM.out; omega) (HB.out.below hb1) (HM.out.below hb1)
    obtain ⟨R, hR⟩ : ∃ R, exL (bl h) (bl f) (bl r) b m = R := ⟨_, rfl⟩
    simp only [hR] at q1 q2
    obtain ⟨RL, RN⟩ := R
    simp only at q1 q2
    have Q1 := Lib.hid q1
    have Q2 := Lib.hid q2
    subst hnh hnf hnr
    clear q1 q2 hR hg
    go_enter Try.func3, Try.ntmps3
    go_wp2_with fail
    refine HA.out.mono ?_
    rintro e w1 ⟨rfl, hb1⟩
    go_wp2_with fail
    refine (Q1.out w1 hb1).mono ?_
    rintro e w2 ⟨u1, rfl, ho1, hb2⟩
    have HB2 := Lib.hid (hb1.trans (hb2.mono hb1.size))
    have HO1 := Lib.hid ho1.reads
    clear ho1 hb2 hb1
    go_wp2_with fail
    refine (Q2.out w2 HB2.out).mono ?_
    rintro e w3 ⟨u2, rfl, ho2, hb3⟩
    have k1 := (HO1.out.below hb3).str
    have k2 := ho2.reads.str
    obtain ⟨S, hS⟩ : ∃ S : ByteArray, S = ⟨RL.toArray⟩ := ⟨_, rfl⟩
    rw [← hS] at k1 k2
    have e3 : (S.toList == S.toList) = true := beq_self_eq_true _
    have e1 : ((RN : Int) == (RN : Int)) = true := beq_self_eq_true _
    have HB3 := Lib.hid (HB2.out.trans (hb3.mono HB2.out.size))
    clear ho2 hb3 hS
    go_wp2
    go_ret
    exact ⟨by simp, HB3.out⟩

theorem once_plain (h f r : ByteArray) (b m : List UInt8) : (exL (bl h) (bl f) (bl r) b m).1.length ≤ (ehloL (bl h) ++ mailL (bl f) ++ rcptL (bl r) ++ dataL ++ stuffL b ++ quitL).length ∧ ((exL (bl h) (bl f) (bl r) b m).2 = 250 → (exL (bl h) (bl f) (bl r) b m).1 = ehloL (bl h) ++ mailL (bl f) ++ rcptL (bl r) ++ dataL ++ stuffL b ++ quitL) := by
  unfold exL
  split
  · have := exc_once (stepsL (bl h) (bl f) (bl r) b) (rps m) [] (by simp [stepsL]) (by simp [stepsL])
    simp only [List.nil_append, sends, stepsL, List.map_cons, List.map_nil, List.flatten_cons, List.flatten_nil, List.append_nil] at this
    simp only [stepsL, List.append_assoc]
    exact this
  · exact ⟨by simp, fun h => by simp at h⟩
set_option maxRecDepth 100000 in
set_option maxHeartbeats 4000000 in
theorem clientOnce_walk (h f r : ByteArray) (vb : Value) (b : List UInt8) (vm : Value) (m : List UInt8) (w : World) (hml : ML w) (sh : h.size ≤ maxLen) (sf : f.size ≤ maxLen) (sr : r.size ≤ maxLen) (hb : SB w vb b) (hm : SB w vm m) :
    Calls Try.prog 5 #[.string h, .string f, .string r, vb, vm] w fun e w' => e = .returned (.bool true) ∧ Below w.heap.size w w' := by
  obtain ⟨Ab, cb, rfl, -, -, -⟩ := hb.form
  obtain ⟨Am, cm, rfl, hcm, hcm2, -⟩ := hm.form
  obtain ⟨nb, hnb⟩ : ∃ n, b.length = n := ⟨_, rfl⟩
  obtain ⟨nm, hnm⟩ : ∃ n, m.length = n := ⟨_, rfl⟩
  have HA := Lib.hid (awake26_any w hml)
  have HML := Lib.hid hml
  have HNB := Lib.hid hnb
  have HNM := Lib.hid hnm
  have HB := Lib.hid hb
  have HM := Lib.hid hm
  rw [hnb] at HB ⊢
  rw [hnm] at HM hcm ⊢
  obtain ⟨nh, hnh⟩ : ∃ n, h.size = n := ⟨_, rfl⟩
  obtain ⟨nf, hnf⟩ : ∃ n, f.size = n := ⟨_, rfl⟩
  obtain ⟨nr, hnr⟩ : ∃ n, r.size = n := ⟨_, rfl⟩
  clear hb hm hml hnb hnm
  by_cases hg : (300 < nh) ∨ (400 < nf) ∨ (400 < nr) ∨ (1000 < nb) ∨ (2000 < nm)
  · rcases (by omega : (300 < nh) ∨ (¬ (300 < nh) ∧ 400 < nf) ∨ (¬ (300 < nh) ∧ ¬ (400 < nf) ∧ 400 < nr) ∨ (¬ (300 < nh) ∧ ¬ (400 < nf) ∧ ¬ (400 < nr) ∧ 1000 < nb) ∨ (¬ (300 < nh) ∧ ¬ (400 < nf) ∧ ¬ (400 < nr) ∧ ¬ (1000 < nb) ∧ 2000 < nm)) with hg' | hg' | hg' | hg' | hg'
    · have t0 : decide ((300 : Int) < (nh : Int)) = true := decide_eq_true (by omega)
      have s0 : decide (300 < nh) = true := decide_eq_true (by omega)
      subst hnh hnf hnr
      clear hg hg'
      go_enter Try.func5, Try.ntmps5
      go_wp2_with fail
      refine HA.out.mono ?_
      rintro e w1 ⟨rfl, hb1⟩
      go_wp2
      go_ret
      exact ⟨rfl, hb1⟩
    · have t0 : decide ((300 : Int) < (nh : Int)) = false := decide_eq_false (by omega)
      have s0 : decide (300 < nh) = false := decide_eq_false (by omega)
      have t1 : decide ((400 : Int) < (nf : Int)) = true := decide_eq_true (by omega)
      have s1 : decide (400 < nf) = true := decide_eq_true (by omega)
      subst hnh hnf hnr
      clear hg hg'
      go_enter Try.func5, Try.ntmps5
      go_wp2_with fail
      refine HA.out.mono ?_
      rintro e w1 ⟨rfl, hb1⟩
      go_wp2
      go_ret
      exact ⟨rfl, hb1⟩
    · have t0 : decide ((300 : Int) < (nh : Int)) = false := decide_eq_false (by omega)
      have s0 : decide (300 < nh) = false := decide_eq_false (by omega)
      have t1 : decide ((400 : Int) < (nf : Int)) = false := decide_eq_false (by omega)
      have s1 : decide (400 < nf) = false := decide_eq_false (by omega)
      have t2 : decide ((400 : Int) < (nr : Int)) = true := decide_eq_true (by omega)
      have s2 : decide (400 < nr) = true := decide_eq_true (by omega)
      subst hnh hnf hnr
      clear hg hg'
      go_enter Try.func5, Try.ntmps5
      go_wp2_with fail
      refine HA.out.mono ?_
      rintro e w1 ⟨rfl, hb1⟩
      go_wp2
      go_ret
      exact ⟨rfl, hb1⟩
    · have t0 : decide ((300 : Int) < (nh : Int)) = false := decide_eq_false (by omega)
      have s0 : decide (300 < nh) = false := decide_eq_false (by omega)
      have t1 : decide ((400 : Int) < (nf : Int)) = false := decide_eq_false (by omega)
      have s1 : decide (400 < nf) = false := decide_eq_false (by omega)
      have t2 : decide ((400 : Int) < (nr : Int)) = false := decide_eq_false (by omega)
      have s2 : decide (400 < nr) = false := decide_eq_false (by omega)
      have t3 : decide ((1000 : Int) < (nb : Int)) = true := decide_eq_true (by omega)
      have s3 : decide (1000 < nb) = true := decide_eq_true (by omega)
      subst hnh hnf hnr
      clear hg hg'
      go_enter Try.func5, Try.ntmps5
      go_wp2_with fail
      refine HA.out.mono ?_
      rintro e w1 ⟨rfl, hb1⟩
      go_wp2
      go_ret
      exact ⟨rfl, hb1⟩
    · have t0 : decide ((300 : Int) < (nh : Int)) = false := decide_eq_false (by omega)
      have s0 : decide (300 < nh) = false := decide_eq_false (by omega)
      have t1 : decide ((400 : Int) < (nf : Int)) = false := decide_eq_false (by omega)
      have s1 : decide (400 < nf) = false := decide_eq_false (by omega)
      have t2 : decide ((400 : Int) < (nr : Int)) = false := decide_eq_false (by omega)
      have s2 : decide (400 < nr) = false := decide_eq_false (by omega)
      have t3 : decide ((1000 : Int) < (nb : Int)) = false := decide_eq_false (by omega)
      have s3 : decide (1000 < nb) = false := decide_eq_false (by omega)
      have t4 : decide ((2000 : Int) < (nm : Int)) = true := decide_eq_true (by omega)
      have s4 : decide (2000 < nm) = true := decide_eq_true (by omega)
      subst hnh hnf hnr
      clear hg hg'
      go_enter Try.func5, Try.ntmps5
      go_wp2_with fail
      refine HA.out.mono ?_
      rintro e w1 ⟨rfl, hb1⟩
      go_wp2
      go_ret
      exact ⟨rfl, hb1⟩
  · have t0 : decide ((300 : Int) < (nh : Int)) = false := decide_eq_false (by omega)
    have s0 : decide (300 < nh) = false := decide_eq_false (by omega)
    have t1 : decide ((400 : Int) < (nf : Int)) = false := decide_eq_false (by omega)
    have s1 : decide (400 < nf) = false := decide_eq_false (by omega)
    have t2 : decide ((400 : Int) < (nr : Int)) = false := decide_eq_false (by omega)
    have s2 : decide (400 < nr) = false := decide_eq_false (by omega)
    have t3 : decide ((1000 : Int) < (nb : Int)) = false := decide_eq_false (by omega)
    have s3 : decide (1000 < nb) = false := decide_eq_false (by omega)
    have t4 : decide ((2000 : Int) < (nm : Int)) = false := decide_eq_false (by omega)
    have s4 : decide (2000 < nm) = false := decide_eq_false (by omega)
    have q1 := fun w' (hb1 : Below w.heap.size w w') => exchange_any h f r _ _ b m w' (HML.out.below hb1) (by omega) (by omega) (by omega) (by have := HNB.out; omega) (by have := HNM.out; omega) (HB.out.below hb1) (HM.out.below hb1)
    have q2 := fun w' (hb1 : Below w.heap.size w w') => qstuff_any _ b w' (by have := HNB.out; omega) (HB.out.below hb1)
    have hpl := once_plain h f r b m
    have hsl := stuffL_len b
    obtain ⟨SS, hSS⟩ : ∃ S : ByteArray, S = ⟨(stuffL b).toArray⟩ := ⟨_, rfl⟩
    have hss : SS.size ≤ 2007 := by rw [← bl_len, hSS, bl_mk]; have := HNB.out; omega
    have hsb : bl SS = stuffL b := by rw [hSS, bl_mk]
    have z0 : (⟨#[69, 72, 76, 79, 32]⟩ : ByteArray).size = 5 := rfl
    have z1 : (⟨#[13, 10, 77, 65, 73, 76, 32, 70, 82, 79, 77, 58, 60]⟩ : ByteArray).size = 13 := rfl
    have z2 : (⟨#[62, 13, 10, 82, 67, 80, 84, 32, 84, 79, 58, 60]⟩ : ByteArray).size = 12 := rfl
    have z3 : (⟨#[62, 13, 10, 68, 65, 84, 65, 13, 10]⟩ : ByteArray).size = 9 := rfl
    have z4 : (⟨#[81, 85, 73, 84, 13, 10]⟩ : ByteArray).size = 6 := rfl
    obtain ⟨P1, hP1⟩ : ∃ S : ByteArray, (⟨#[69, 72, 76, 79, 32]⟩ : ByteArray) ++ h = S := ⟨_, rfl⟩
    obtain ⟨P2, hP2⟩ : ∃ S : ByteArray, (P1 : ByteArray) ++ ⟨#[13, 10, 77, 65, 73, 76, 32, 70, 82, 79, 77, 58, 60]⟩ = S := ⟨_, rfl⟩
    obtain ⟨P3, hP3⟩ : ∃ S : ByteArray, (P2 : ByteArray) ++ f = S := ⟨_, rfl⟩
    obtain ⟨P4, hP4⟩ : ∃ S : ByteArray, (P3 : ByteArray) ++ ⟨#[62, 13, 10, 82, 67, 80, 84, 32, 84, 79, 58, 60]⟩ = S := ⟨_, rfl⟩
    obtain ⟨P5, hP5⟩ : ∃ S : ByteArray, (P4 : ByteArray) ++ r = S := ⟨_, rfl⟩
    obtain ⟨P6, hP6⟩ : ∃ S : ByteArray, (P5 : ByteArray) ++ ⟨#[62, 13, 10, 68, 65, 84, 65, 13, 10]⟩ = S := ⟨_, rfl⟩
    obtain ⟨P7, hP7⟩ : ∃ S : ByteArray, (P6 : ByteArray) ++ SS = S := ⟨_, rfl⟩
    obtain ⟨P8, hP8⟩ : ∃ S : ByteArray, (P7 : ByteArray) ++ ⟨#[81, 85, 73, 84, 13, 10]⟩ = S := ⟨_, rfl⟩
    have yP1 : P1.size ≤ 305 := by rw [← hP1, size_app]; omega
    have yP2 : P2.size ≤ 318 := by rw [← hP2, size_app]; omega
    have yP3 : P3.size ≤ 718 := by rw [← hP3, size_app]; omega
    have yP4 : P4.size ≤ 730 := by rw [← hP4, size_app]; omega
    have yP5 : P5.size ≤ 1130 := by rw [← hP5, size_app]; omega
    have yP6 : P6.size ≤ 1139 := by rw [← hP6, size_app]; omega
    have yP7 : P7.size ≤ 3146 := by rw [← hP7, size_app]; omega
    have yP8 : P8.size ≤ 3152 := by rw [← hP8, size_app]; omega
    have kP1 := fun w => run_string_add_sum (P := Try.prog) w ⟨#[69, 72, 76, 79, 32]⟩ h (by omega)
    rw [hP1] at kP1
    have kP2 := fun w => run_string_add_sum (P := Try.prog) w P1 ⟨#[13, 10, 77, 65, 73, 76, 32, 70, 82, 79, 77, 58, 60]⟩ (by omega)
    rw [hP2] at kP2
    have kP3 := fun w => run_string_add_sum (P := Try.prog) w P2 f (by omega)
    rw [hP3] at kP3
    have kP4 := fun w => run_string_add_sum (P := Try.prog) w P3 ⟨#[62, 13, 10, 82, 67, 80, 84, 32, 84, 79, 58, 60]⟩ (by omega)
    rw [hP4] at kP4
    have kP5 := fun w => run_string_add_sum (P := Try.prog) w P4 r (by omega)
    rw [hP5] at kP5
    have kP6 := fun w => run_string_add_sum (P := Try.prog) w P5 ⟨#[62, 13, 10, 68, 65, 84, 65, 13, 10]⟩ (by omega)
    rw [hP6] at kP6
    have kP7 := fun w => run_string_add_sum (P := Try.prog) w P6 SS (by omega)
    rw [hP7] at kP7
    have kP8 := fun w => run_string_add_sum (P := Try.prog) w P7 ⟨#[81, 85, 73, 84, 13, 10]⟩ (by omega)
    rw [hP8] at kP8
    have hall : bl P8 = ehloL (bl h) ++ mailL (bl f) ++ rcptL (bl r) ++ dataL ++ stuffL b ++ quitL := by
      rw [← hP8, ← hP7, ← hP6, ← hP5, ← hP4, ← hP3, ← hP2, ← hP1]
      simp only [bl_append, hsb]
      simp [ehloL, mailL, rcptL, dataL, quitL, bl]
    rw [← hall, bl_len] at hpl
    obtain ⟨R, hR⟩ : ∃ R, exL (bl h) (bl f) (bl r) b m = R := ⟨_, rfl⟩
    simp only [hR] at q1 hpl
    obtain ⟨RL, RN⟩ := R
    simp only at q1 hpl
    obtain ⟨hp1, hp2⟩ := hpl
    have Q1 := Lib.hid q1
    have Q2 := Lib.hid q2
    obtain ⟨n1, hn1⟩ : ∃ n, RL.length = n := ⟨_, rfl⟩
    rw [hn1] at hp1
    have d0 : decide (n1 ≤ P8.size) = true := decide_eq_true hp1
    have d1 : decide ((n1 : Int) ≤ (P8.size : Int)) = true := decide_eq_true (by omega)
    have HN1 := Lib.hid hn1
    obtain ⟨EL, hEL⟩ : ∃ q, stuffL b = q := ⟨_, rfl⟩
    rw [hEL] at hSS
    simp only [hEL] at Q2
    have HSS := Lib.hid hSS
    have hstr : RN = 250 → (⟨RL.toArray⟩ : ByteArray) = P8 := fun h => bl_ext (by rw [bl_mk]; exact hp2 h)
    have HSTR := Lib.hid hstr
    subst hnh hnf hnr
    clear q1 q2 hR hg hp2 hall hsb hss hsl hEL hSS hn1 hstr yP1 yP2 yP3 yP4 yP5 yP6 yP7 yP8
    by_cases hc : RN = 250
    · have c0 : ((RN : Int) != 250) = false := by simp [hc]
      have c1 : (RN != 250) = false := by simp [hc]
      have hst := HSTR.out hc
      have e3 : (P8.toList == P8.toList) = true := beq_self_eq_true _
      have HST := Lib.hid hst
      clear hst hc
      go_enter Try.func5, Try.ntmps5
      go_wp2_with fail
      refine HA.out.mono ?_
      rintro e w1 ⟨rfl, hb1⟩
      go_wp2_with fail
      refine (Q1.out w1 hb1).mono ?_
      rintro e w2 ⟨u1, rfl, ho1, hb2⟩
      have HB2 := Lib.hid (hb1.trans (hb2.mono hb1.size))
      obtain ⟨A1, c1', rfl, -, -, -⟩ := ho1.reads.form
      have HO1 := Lib.hid ho1.reads
      rw [HN1.out] at HO1 ⊢
      clear ho1 hb2 hb1
      go_wp2_with fail
      refine (Q2.out w2 HB2.out).mono ?_
      rintro e w3 ⟨u2, rfl, ho2, hb3⟩
      have k1 := (HO1.out.below hb3).str
      have k2 := ho2.reads.str
      rw [← HSS.out] at k2
      rw [HST.out] at k1
      have HB3 := Lib.hid (HB2.out.trans (hb3.mono HB2.out.size))
      clear ho2 hb3
      go_wp2
      go_ret
      exact ⟨by simp, HB3.out⟩
    · have c0 : ((RN : Int) != 250) = true := by simp; omega
      have c1 : (RN != 250) = true := by simp [hc]
      have HST : Hid (True) := trivial
      clear hc
      go_enter Try.func5, Try.ntmps5
      go_wp2_with fail
      refine HA.out.mono ?_
      rintro e w1 ⟨rfl, hb1⟩
      go_wp2_with fail
      refine (Q1.out w1 hb1).mono ?_
      rintro e w2 ⟨u1, rfl, ho1, hb2⟩
      have HB2 := Lib.hid (hb1.trans (hb2.mono hb1.size))
      obtain ⟨A1, c1', rfl, -, -, -⟩ := ho1.reads.form
      have HO1 := Lib.hid ho1.reads
      rw [HN1.out] at HO1 ⊢
      clear ho1 hb2 hb1
      go_wp2_with fail
      refine (Q2.out w2 HB2.out).mono ?_
      rintro e w3 ⟨u2, rfl, ho2, hb3⟩
      have k1 := (HO1.out.below hb3).str
      have k2 := ho2.reads.str
      rw [← HSS.out] at k2
      skip
      have HB3 := Lib.hid (HB2.out.trans (hb3.mono HB2.out.size))
      clear ho2 hb3
      go_wp2
      go_ret
      exact ⟨by simp, HB3.out⟩

theorem stops_plain (h f r : ByteArray) (b m : List UInt8) (k : Nat) : (∃ z, (exL (bl h) (bl f) (bl r) b m).1 = (exL (bl h) (bl f) (bl r) b (m.take k)).1 ++ z) ∧ ((exL (bl h) (bl f) (bl r) b (m.take k)).2 = 0 ∨ (exL (bl h) (bl f) (bl r) b (m.take k)).2 = (exL (bl h) (bl f) (bl r) b m).2) := by
  unfold exL
  split
  · obtain ⟨j, hj⟩ := rps_take m.length m (Nat.le_refl _) k
    rw [hj]
    exact exc_take _ _ _ _
  · exact ⟨⟨[], rfl⟩, .inl rfl⟩
set_option maxRecDepth 100000 in
set_option maxHeartbeats 4000000 in
theorem clientStops_walk (h f r : ByteArray) (vb : Value) (b : List UInt8) (vm : Value) (m : List UInt8) (cut : Int) (w : World) (hml : ML w) (sh : h.size ≤ maxLen) (sf : f.size ≤ maxLen) (sr : r.size ≤ maxLen) (hb : SB w vb b) (hm : SB w vm m) (sc : (Lit.int .i64 cut).wf = true) :
    Calls Try.prog 6 #[.string h, .string f, .string r, vb, vm, .int .i64 cut] w fun e w' => e = .returned (.bool true) ∧ Below w.heap.size w w' := by
  obtain ⟨Ab, cb, rfl, -, -, -⟩ := hb.form
  obtain ⟨Am, cm, rfl, hcm, hcm2, -⟩ := hm.form
  obtain ⟨nb, hnb⟩ : ∃ n, b.length = n := ⟨_, rfl⟩
  obtain ⟨nm, hnm⟩ : ∃ n, m.length = n := ⟨_, rfl⟩
  have HA := Lib.hid (awake26_any w hml)
  have HML := Lib.hid hml
  have HNB := Lib.hid hnb
  have HNM := Lib.hid hnm
  have HB := Lib.hid hb
  have HM := Lib.hid hm
  rw [hnb] at HB ⊢
  rw [hnm] at HM hcm ⊢
  obtain ⟨nh, hnh⟩ : ∃ n, h.size = n := ⟨_, rfl⟩
  obtain ⟨nf, hnf⟩ : ∃ n, f.size = n := ⟨_, rfl⟩
  obtain ⟨nr, hnr⟩ : ∃ n, r.size = n := ⟨_, rfl⟩
  clear hb hm hml hnb hnm
  by_cases hg : (300 < nh) ∨ (400 < nf) ∨ (400 < nr) ∨ (1000 < nb) ∨ (2000 < nm) ∨ (cut < 0) ∨ ((nm : Int) < cut)
  · rcases (by omega : (300 < nh) ∨ (¬ (300 < nh) ∧ 400 < nf) ∨ (¬ (300 < nh) ∧ ¬ (400 < nf) ∧ 400 < nr) ∨ (¬ (300 < nh) ∧ ¬ (400 < nf) ∧ ¬ (400 < nr) ∧ 1000 < nb) ∨ (¬ (300 < nh) ∧ ¬ (400 < nf) ∧ ¬ (400 < nr) ∧ ¬ (1000 < nb) ∧ 2000 < nm) ∨ (¬ (300 < nh) ∧ ¬ (400 < nf) ∧ ¬ (400 < nr) ∧ ¬ (1000 < nb) ∧ ¬ (2000 < nm) ∧ cut < 0) ∨ (¬ (300 < nh) ∧ ¬ (400 < nf) ∧ ¬ (400 < nr) ∧ ¬ (1000 < nb) ∧ ¬ (2000 < nm) ∧ ¬ (cut < 0) ∧ (nm : Int) < cut)) with hg' | hg' | hg' | hg' | hg' | hg' | hg'
    · have t0 : decide ((300 : Int) < (nh : Int)) = true := decide_eq_true (by omega)
      have s0 : decide (300 < nh) = true := decide_eq_true (by omega)
      subst hnh hnf hnr
      clear hg hg'
      go_enter Try.func6, Try.ntmps6
      go_wp2_with fail
      refine HA.out.mono ?_
      rintro e w1 ⟨rfl, hb1⟩
      go_wp2
      go_ret
      exact ⟨rfl, hb1⟩
    · have t0 : decide ((300 : Int) < (nh : Int)) = false := decide_eq_false (by omega)
      have s0 : decide (300 < nh) = false := decide_eq_false (by omega)
      have t1 : decide ((400 : Int) < (nf : Int)) = true := decide_eq_true (by omega)
      have s1 : decide (400 < nf) = true := decide_eq_true (by omega)
      subst hnh hnf hnr
      clear hg hg'
      go_enter Try.func6, Try.ntmps6
      go_wp2_with fail
      refine HA.out.mono ?_
      rintro e w1 ⟨rfl, hb1⟩
      go_wp2
      go_ret
      exact ⟨rfl, hb1⟩
    · have t0 : decide ((300 : Int) < (nh : Int)) = false := decide_eq_false (by omega)
      have s0 : decide (300 < nh) = false := decide_eq_false (by omega)
      have t1 : decide ((400 : Int) < (nf : Int)) = false := decide_eq_false (by omega)
      have s1 : decide (400 < nf) = false := decide_eq_false (by omega)
      have t2 : decide ((400 : Int) < (nr : Int)) = true := decide_eq_true (by omega)
      have s2 : decide (400 < nr) = true := decide_eq_true (by omega)
      subst hnh hnf hnr
      clear hg hg'
      go_enter Try.func6, Try.ntmps6
      go_wp2_with fail
      refine HA.out.mono ?_
      rintro e w1 ⟨rfl, hb1⟩
      go_wp2
      go_ret
      exact ⟨rfl, hb1⟩
    · have t0 : decide ((300 : Int) < (nh : Int)) = false := decide_eq_false (by omega)
      have s0 : decide (300 < nh) = false := decide_eq_false (by omega)
      have t1 : decide ((400 : Int) < (nf : Int)) = false := decide_eq_false (by omega)
      have s1 : decide (400 < nf) = false := decide_eq_false (by omega)
      have t2 : decide ((400 : Int) < (nr : Int)) = false := decide_eq_false (by omega)
      have s2 : decide (400 < nr) = false := decide_eq_false (by omega)
      have t3 : decide ((1000 : Int) < (nb : Int)) = true := decide_eq_true (by omega)
      have s3 : decide (1000 < nb) = true := decide_eq_true (by omega)
      subst hnh hnf hnr
      clear hg hg'
      go_enter Try.func6, Try.ntmps6
      go_wp2_with fail
      refine HA.out.mono ?_
      rintro e w1 ⟨rfl, hb1⟩
      go_wp2
      go_ret
      exact ⟨rfl, hb1⟩
    · have t0 : decide ((300 : Int) < (nh : Int)) = false := decide_eq_false (by omega)
      have s0 : decide (300 < nh) = false := decide_eq_false (by omega)
      have t1 : decide ((400 : Int) < (nf : Int)) = false := decide_eq_false (by omega)
      have s1 : decide (400 < nf) = false := decide_eq_false (by omega)
      have t2 : decide ((400 : Int) < (nr : Int)) = false := decide_eq_false (by omega)
      have s2 : decide (400 < nr) = false := decide_eq_false (by omega)
      have t3 : decide ((1000 : Int) < (nb : Int)) = false := decide_eq_false (by omega)
      have s3 : decide (1000 < nb) = false := decide_eq_false (by omega)
      have t4 : decide ((2000 : Int) < (nm : Int)) = true := decide_eq_true (by omega)
      have s4 : decide (2000 < nm) = true := decide_eq_true (by omega)
      subst hnh hnf hnr
      clear hg hg'
      go_enter Try.func6, Try.ntmps6
      go_wp2_with fail
      refine HA.out.mono ?_
      rintro e w1 ⟨rfl, hb1⟩
      go_wp2
      go_ret
      exact ⟨rfl, hb1⟩
    · have t0 : decide ((300 : Int) < (nh : Int)) = false := decide_eq_false (by omega)
      have s0 : decide (300 < nh) = false := decide_eq_false (by omega)
      have t1 : decide ((400 : Int) < (nf : Int)) = false := decide_eq_false (by omega)
      have s1 : decide (400 < nf) = false := decide_eq_false (by omega)
      have t2 : decide ((400 : Int) < (nr : Int)) = false := decide_eq_false (by omega)
      have s2 : decide (400 < nr) = false := decide_eq_false (by omega)
      have t3 : decide ((1000 : Int) < (nb : Int)) = false := decide_eq_false (by omega)
      have s3 : decide (1000 < nb) = false := decide_eq_false (by omega)
      have t4 : decide ((2000 : Int) < (nm : Int)) = false := decide_eq_false (by omega)
      have s4 : decide (2000 < nm) = false := decide_eq_false (by omega)
      have t5 : decide ((cut : Int) < 0) = true := decide_eq_true (by omega)
      have s5 : decide (cut < 0) = true := decide_eq_true (by omega)
      subst hnh hnf hnr
      clear hg hg'
      go_enter Try.func6, Try.ntmps6
      go_wp2_with fail
      refine HA.out.mono ?_
      rintro e w1 ⟨rfl, hb1⟩
      go_wp2
      go_ret
      exact ⟨rfl, hb1⟩
    · have t0 : decide ((300 : Int) < (nh : Int)) = false := decide_eq_false (by omega)
      have s0 : decide (300 < nh) = false := decide_eq_false (by omega)
      have t1 : decide ((400 : Int) < (nf : Int)) = false := decide_eq_false (by omega)
      have s1 : decide (400 < nf) = false := decide_eq_false (by omega)
      have t2 : decide ((400 : Int) < (nr : Int)) = false := decide_eq_false (by omega)
      have s2 : decide (400 < nr) = false := decide_eq_false (by omega)
      have t3 : decide ((1000 : Int) < (nb : Int)) = false := decide_eq_false (by omega)
      have s3 : decide (1000 < nb) = false := decide_eq_false (by omega)
      have t4 : decide ((2000 : Int) < (nm : Int)) = false := decide_eq_false (by omega)
      have s4 : decide (2000 < nm) = false := decide_eq_false (by omega)
      have t5 : decide ((cut : Int) < 0) = false := decide_eq_false (by omega)
      have s5 : decide (cut < 0) = false := decide_eq_false (by omega)
      have t6 : decide ((nm : Int) < cut) = true := decide_eq_true (by omega)
      have s6 : decide ((nm : Int) < cut) = true := decide_eq_true (by omega)
      subst hnh hnf hnr
      clear hg hg'
      go_enter Try.func6, Try.ntmps6
      go_wp2_with fail
      refine HA.out.mono ?_
      rintro e w1 ⟨rfl, hb1⟩
      go_wp2
      go_ret
      exact ⟨rfl, hb1⟩
  · have t0 : decide ((300 : Int) < (nh : Int)) = false := decide_eq_false (by omega)
    have s0 : decide (300 < nh) = false := decide_eq_false (by omega)
    have t1 : decide ((400 : Int) < (nf : Int)) = false := decide_eq_false (by omega)
    have s1 : decide (400 < nf) = false := decide_eq_false (by omega)
    have t2 : decide ((400 : Int) < (nr : Int)) = false := decide_eq_false (by omega)
    have s2 : decide (400 < nr) = false := decide_eq_false (by omega)
    have t3 : decide ((1000 : Int) < (nb : Int)) = false := decide_eq_false (by omega)
    have s3 : decide (1000 < nb) = false := decide_eq_false (by omega)
    have t4 : decide ((2000 : Int) < (nm : Int)) = false := decide_eq_false (by omega)
    have s4 : decide (2000 < nm) = false := decide_eq_false (by omega)
    have t5 : decide ((cut : Int) < 0) = false := decide_eq_false (by omega)
    have s5 : decide (cut < 0) = false := decide_eq_false (by omega)
    have t6 : decide ((nm : Int) < cut) = false := decide_eq_false (by omega)
    have s6 : decide ((nm : Int) < cut) = false := decide_eq_false (by omega)
    obtain ⟨k, rfl⟩ := Int.eq_ofNat_of_zero_le (show 0 ≤ cut by omega)
    have ks := fun w => slice_runh Am nm cm k (by omega) (k : Int) rfl w
    have hkm : k ≤ nm := by omega
    have hlt : (m.take k).length = k := by rw [List.length_take, HNM.out]; omega
    have q1 := fun w' (hb1 : Below w.heap.size w w') => exchange_any h f r _ (.slice Am k cm) b (m.take k) w' (HML.out.below hb1) (by omega) (by omega) (by omega) (by have := HNB.out; omega) (by rw [hlt]; omega) (HB.out.below hb1) ((HM.out.below hb1).take k (by rw [HNM.out]; omega) (.inr trivial))
    have q2 := fun w' (hb1 : Below w.heap.size w w') => exchange_any h f r _ _ b m w' (HML.out.below hb1) (by omega) (by omega) (by omega) (by have := HNB.out; omega) (by have := HNM.out; omega) (HB.out.below hb1) (HM.out.below hb1)
    have hpl := stops_plain h f r b m k
    obtain ⟨R, hR⟩ : ∃ R, exL (bl h) (bl f) (bl r) b m = R := ⟨_, rfl⟩
    obtain ⟨R2, hR2⟩ : ∃ R, exL (bl h) (bl f) (bl r) b (m.take k) = R := ⟨_, rfl⟩
    simp only [hR] at q2 hpl
    simp only [hR2] at q1 hpl
    obtain ⟨RL, RN⟩ := R
    obtain ⟨RL2, RN2⟩ := R2
    simp only at q1 q2 hpl
    obtain ⟨⟨z, hz⟩, hn⟩ := hpl
    have hle : RL2.length ≤ RL.length := by rw [hz, List.length_append]; omega
    have htk : RL.take RL2.length = RL2 := by rw [hz, List.take_left]
    have Q1 := Lib.hid q1
    have Q2 := Lib.hid q2
    have HTK := Lib.hid htk
    obtain ⟨n1, hn1⟩ : ∃ n, RL.length = n := ⟨_, rfl⟩
    obtain ⟨n2, hn2⟩ : ∃ n, RL2.length = n := ⟨_, rfl⟩
    rw [hn1, hn2] at hle
    rw [hn2] at HTK
    have d0 : decide (n2 ≤ n1) = true := decide_eq_true hle
    have d1 : decide ((n2 : Int) ≤ (n1 : Int)) = true := decide_eq_true (by omega)
    have HN1 := Lib.hid hn1
    have HN2 := Lib.hid hn2
    subst hnh hnf hnr
    clear q1 q2 hR hR2 hg hz hn1 hn2 htk hlt
    rcases (by omega : RN2 = 0 ∨ (RN2 ≠ 0 ∧ RN2 = RN)) with hc | ⟨hc, hc2⟩
    · subst hc
      clear hn
      go_enter Try.func6, Try.ntmps6
      go_wp2_with fail
      refine HA.out.mono ?_
      rintro e w1 ⟨rfl, hb1⟩
      go_wp2_with fail
      refine (Q1.out w1 hb1).mono ?_
      rintro e w2 ⟨u1, rfl, ho1, hb2⟩
      have HB2 := Lib.hid (hb1.trans (hb2.mono hb1.size))
      obtain ⟨A1, c1', rfl, -, -, -⟩ := ho1.reads.form
      have HO1 := Lib.hid ho1.reads
      rw [HN2.out] at HO1 ⊢
      clear ho1 hb2 hb1
      go_wp2_with fail
      refine (Q2.out w2 HB2.out).mono ?_
      rintro e w3 ⟨u2, rfl, ho2, hb3⟩
      obtain ⟨A2, c2', rfl, hcc2, -, -⟩ := ho2.reads.form
      have hsb2 := ho2.reads
      rw [HN1.out] at hsb2 hcc2 ⊢
      have k0 := fun w => slice_runh A2 n1 c2' n2 (by omega) (n2 : Int) rfl w
      have k1 := fun (j : Nat) => ((HO1.out.below hb3).below (W' := w3.drewN j) (below_drewN (Below.refl _ _) j)).str
      have k2 := fun (j : Nat) => (hsb2.below (W' := w3.drewN j) (below_drewN (Below.refl _ _) j)).take n2 (by rw [HN1.out]; exact hle) (.inr trivial)
      have k3 := fun (j : Nat) => (k2 j).str
      simp only [HTK.out] at k3
      obtain ⟨S, hS⟩ : ∃ S : ByteArray, S = ⟨RL2.toArray⟩ := ⟨_, rfl⟩
      simp only [← hS] at k1 k3
      have e3 : (S.toList == S.toList) = true := beq_self_eq_true _
      have HB3 := Lib.hid (below_drewN (HB2.out.trans (hb3.mono HB2.out.size)))
      clear ho2 hb3 k2 hsb2 hS
      go_wp2_with fail
      go_quiet (fail)
      go_wp2
      go_ret
      exact ⟨by simp, HB3.out _⟩
    · have c0 : ((RN2 : Int) == 0) = false := by simp; omega
      have c1 : (RN2 == 0) = false := by simp [hc]
      subst hc2
      have c2 : ((RN2 : Int) == (RN2 : Int)) = true := beq_self_eq_true _
      clear hn hc
      go_enter Try.func6, Try.ntmps6
      go_wp2_with fail
      refine HA.out.mono ?_
      rintro e w1 ⟨rfl, hb1⟩
      go_wp2_with fail
      refine (Q1.out w1 hb1).mono ?_
      rintro e w2 ⟨u1, rfl, ho1, hb2⟩
      have HB2 := Lib.hid (hb1.trans (hb2.mono hb1.size))
      obtain ⟨A1, c1', rfl, -, -, -⟩ := ho1.reads.form
      have HO1 := Lib.hid ho1.reads
      rw [HN2.out] at HO1 ⊢
      clear ho1 hb2 hb1
      go_wp2_with fail
      refine (Q2.out w2 HB2.out).mono ?_
      rintro e w3 ⟨u2, rfl, ho2, hb3⟩
      obtain ⟨A2, c2', rfl, hcc2, -, -⟩ := ho2.reads.form
      have hsb2 := ho2.reads
      rw [HN1.out] at hsb2 hcc2 ⊢
      have k0 := fun w => slice_runh A2 n1 c2' n2 (by omega) (n2 : Int) rfl w
      have k1 := fun (j : Nat) => ((HO1.out.below hb3).below (W' := w3.drewN j) (below_drewN (Below.refl _ _) j)).str
      have k2 := fun (j : Nat) => (hsb2.below (W' := w3.drewN j) (below_drewN (Below.refl _ _) j)).take n2 (by rw [HN1.out]; exact hle) (.inr trivial)
      have k3 := fun (j : Nat) => (k2 j).str
      simp only [HTK.out] at k3
      obtain ⟨S, hS⟩ : ∃ S : ByteArray, S = ⟨RL2.toArray⟩ := ⟨_, rfl⟩
      simp only [← hS] at k1 k3
      have e3 : (S.toList == S.toList) = true := beq_self_eq_true _
      have HB3 := Lib.hid (below_drewN (HB2.out.trans (hb3.mono HB2.out.size)))
      clear ho2 hb3 k2 hsb2 hS
      go_wp2_with fail
      go_quiet (fail)
      go_wp2
      go_ret
      exact ⟨by simp, HB3.out _⟩
end Go.Proofs.Ytlgodokgebjjaaa

/- TokenTerms. -/
import Derived.RangeFuncNested
import Derived.RangeFuncBound
import Derived.RangeFuncCalls
import Derived.RangeFuncLeaves
import Derived.Shelf.Abstract
import Derived.Shelf.RegionOpen
import Derived.WalkKit
import Derived.OwnWalkIn
import Derived.TacticsInMore
import Derived.LoopNIn
import Derived.LoopIn
import Derived.Outline
import Derived.Lib.Hide
import Derived.Lib.SliceRun
import Derived.IntWalk
import Derived.WalkLawsBesides
import Derived.WalkSpells
import Derived.Laws.BitsAllLaws
import Derived.Lib.ConvBytes
import Derived.Maps.AppendAt
import Derived.Lib.AppendStr
import Derived.Lib.SlBytesConst
import Derived.Laws.AppendOwnNone
import Derived.Laws.OwnMore
import Derived.Laws.BytesArg
import Derived.Deep.RegionHeld3
import Derived.BigQuiet
import Derived.Deep.RegionLaw
import Derived.Deep.QuietTactic
import Derived.Lib.OthersKept
import Derived.Test.YthcggjehihkdoaaProg
import Derived.Deep.DeepFit
import Derived.Test.YthcggjehihkdoaaTkJ
set_option linter.unusedVariables false
set_option linter.unusedSimpArgs false
namespace Go.Proofs.Ythcggjehihkdoaa
open Go Go.RowKit Go.Shelf
open Go.Proofs (encStr)

set_option maxHeartbeats 4000000 in
set_option maxRecDepth 100000 in
theorem tokenTerms_walk (s : ByteArray) (v : Value) (l : List UInt8) (w : World) (hsm : s.size ≤ maxLen) (h : SB w v l) :
    Calls Try.prog 12 #[.string s, v] w fun e w' => e = .returned (.bool true) ∧ Below w.heap.size w w' := by
  obtain ⟨A, c, rfl, -, -, -⟩ := h.form
  obtain ⟨L, hL⟩ : ∃ L, l.length = L := ⟨_, rfl⟩
  have HL := Lib.hid hL
  have HS := Lib.hid h
  rw [hL] at HS ⊢
  obtain ⟨B, hB⟩ : ∃ B, w.heap.size = B := ⟨_, rfl⟩
  have haw := awake12_any w
  rw [hB] at haw ⊢
  have HAW := Lib.hid haw
  have HSB : Hid (∀ w', Below B w w' → SB w' (.slice A L c) l) := fun w' hb => HS.out.below (hB ▸ hb)
  have hwl := words_len l
  have hwg := words_good l
  obtain ⟨ws, hws⟩ : ∃ ws, words l = ws := ⟨_, rfl⟩
  rw [hws] at hwl hwg
  have HWS := Lib.hid hws
  have HWG := Lib.hid hwg
  have HWL : Hid (ws.length ≤ L + 1) := by show _ ≤ _; rw [← hL]; exact hwl
  have q1 : decide ((200 : Int) < (s.size : Int)) = decide (200 < s.size) := few_facts s.size 200
  have q2 : decide ((2000 : Int) < (L : Int)) = decide (2000 < L) := few_facts L 2000
  clear h hL haw hwl hwg hws
  unfold maxLen at hsm
  by_cases hl1 : s.size ≤ 200
  · rw [decide_eq_false (show ¬ 200 < s.size by omega)] at q1
    have q1' : decide (200 < s.size) = false := decide_eq_false (by omega)
    by_cases hl2 : L ≤ 2000
    · rw [decide_eq_false (show ¬ 2000 < L by omega)] at q2
      have q2' : decide (2000 < L) = false := decide_eq_false (by omega)
      obtain ⟨b, hb⟩ : ∃ b, termB (bl s) = b := ⟨_, rfl⟩
      have ht1 := fun w => term_any s (by omega) w
      have ht2 := fun w => qterm_any s (by omega) w
      simp only [hb] at ht1 ht2
      have HT1 := Lib.hid ht1
      have HT2 := Lib.hid ht2
      clear ht1 ht2 hb
      have qb : (b != b) = false := by simp
      go_enter Try.func12, Try.ntmps12
      go_wp2_with fail
      refine HAW.out.mono ?_
      rintro e w1 ⟨rfl, hb1⟩
      have HB1 := Lib.hid hb1
      clear hb1
      go_wp2_with fail
      refine (HT1.out _).mono ?_
      rintro e w2 ⟨rfl, hb2⟩
      have HB2 := Lib.hid (HB1.out.trans (hb2.mono (by rw [← hB]; exact HB1.out.size)))
      clear hb2
      go_wp2_with fail
      refine (HT2.out _).mono ?_
      rintro e w3 ⟨rfl, rfl⟩
      have hc := words_any _ l w3 (by have := HL.out; omega) (HSB.out _ HB2.out)
      rw [HWS.out] at hc
      have HC := Lib.hid hc
      clear hc
      go_wp2_with fail
      refine HC.out.mono ?_
      rintro e w4 ⟨u, rfl, ho, hb4⟩
      have hn3 : B ≤ w3.heap.size := by rw [← hB]; exact HB2.out.size
      have HB4 := Lib.hid (HB2.out.trans (hb4.mono hn3))
      have hn4 : B ≤ w4.heap.size := by rw [← hB]; exact HB4.out.size
      have hts := ho.reads
      obtain ⟨A4, c4, rfl, ⟨-, hm4⟩, -⟩ := ho.reads
      obtain ⟨n, hn⟩ : ∃ n, ws.length = n := ⟨_, rfl⟩
      rw [hn] at hts ⊢
      have HN := Lib.hid hn
      have HTS : Hid (∀ W, Below w4.heap.size w4 W → TS W (.slice A4 n c4) ws) := fun W hb => hts.below hb
      have hnb : n ≤ 2001 := by have := HWL.out; omega
      clear ho hb4 hts hn
      go_wp2
      go_loopw [35] (fun i wr => ∃ k : Nat, (i = .int .i64 (k : Int) ∧ k ≤ n) ∧ Mine w4.heap.size w4 wr) (fun i _ => n - (intOf i).toNat)
      case atStart => exact ⟨0, ⟨rfl, Nat.zero_le _⟩, Mine.refl w4⟩
      case round =>
        obtain ⟨k, ⟨rfl, hk⟩, hmi⟩ := hrel
        by_cases hlt : k < n
        · have hkc : k < ws.length := by rw [HN.out]; exact hlt
          obtain ⟨g, o, rfl, c0⟩ := (HTS.out _ hmi.bel).at k hkc
          have hg := HWG.out ws[k] (List.getElem_mem hkc)
          have hle := words_le l ws[k] (by rw [HWS.out]; exact List.getElem_mem hkc)
          obtain ⟨x, hx⟩ : ∃ x, ws[k] = x := ⟨_, rfl⟩
          rw [hx] at c0 hg hle
          obtain ⟨xk, hxk⟩ : ∃ xk : ByteArray, (⟨x.toArray⟩ : ByteArray) = xk := ⟨_, rfl⟩
          rw [hxk] at c0
          have hbx : bl xk = x := by rw [← hxk, bl_mk]
          have hsz : xk.size ≤ 32 := by rw [← bl_len, hbx]; exact hle
          have ht := fun w => term_any xk (by omega) w
          rw [hbx, hg] at ht
          have HT := Lib.hid ht
          have HM := Lib.hid hmi
          have e0 : decide (k < n) = true := decide_eq_true hlt
          have k0 : (0 : Int) ≤ (k : Int) := by omega
          have k1 : (k : Int) < (n : Int) := by omega
          clear ht hbx hsz hxk hx hg hle hmi
          go_wp2_with fail
          refine (HT.out _).mono ?_
          rintro e w5 ⟨rfl, hb5⟩
          have HM5 := Lib.hid (HM.out.call hb5)
          clear hb5 HM
          go_wp2
          go_roundw
          case rel => exact ⟨k + 1, ⟨by go_num, by omega⟩, HM5.out⟩
          case measure => simp [intOf]; omega
        · have e0 : decide (k < n) = false := decide_eq_false hlt
          have HM := Lib.hid hmi
          clear hmi
          go_wp2
          go_ret
          exact ⟨rfl, HB4.out.trans (HM.out.bel.mono hn4)⟩
    · rw [decide_eq_true (show 2000 < L by omega)] at q2
      have q2' : decide (2000 < L) = true := decide_eq_true (by omega)
      go_enter Try.func12, Try.ntmps12
      go_wp2_with fail
      refine HAW.out.mono ?_
      rintro e w1 ⟨rfl, hb1⟩
      have HB1 := Lib.hid hb1
      clear hb1
      go_wp2
      go_ret
      exact ⟨rfl, HB1.out⟩
  · rw [decide_eq_true (show 200 < s.size by omega)] at q1
    have q1' : decide (200 < s.size) = true := decide_eq_true (by omega)
    clear q2
    go_enter Try.func12, Try.ntmps12
    go_wp2_with fail
    refine HAW.out.mono ?_
    rintro e w1 ⟨rfl, hb1⟩
    have HB1 := Lib.hid hb1
    clear hb1
    go_wp2
    go_ret
    exact ⟨rfl, HB1.out⟩
end Go.Proofs.Ythcggjehihkdoaa

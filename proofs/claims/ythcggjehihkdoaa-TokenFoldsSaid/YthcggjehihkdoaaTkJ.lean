/- same, awake, TokenWords, TokenSets. -/
import Derived.RangeFuncNested
import Derived.RangeFuncBound
import Derived.RangeFuncCalls
import Derived.RangeFuncLeaves
import Derived.Shelf.Abstract
import Derived.Shelf.RegionOpen
import Derived.WalkKit
import Derived.OwnWalkIn
import Derived.TacticsInMore
import Derived.LoopNIn
import Derived.LoopIn
import Derived.Outline
import Derived.Lib.Hide
import Derived.Lib.SliceRun
import Derived.IntWalk
import Derived.WalkLawsBesides
import Derived.WalkSpells
import Derived.Laws.BitsAllLaws
import Derived.Lib.ConvBytes
import Derived.Maps.AppendAt
import Derived.Lib.AppendStr
import Derived.Lib.SlBytesConst
import Derived.Laws.AppendOwnNone
import Derived.Laws.OwnMore
import Derived.Laws.BytesArg
import Derived.Deep.RegionHeld3
import Derived.BigQuiet
import Derived.Deep.RegionLaw
import Derived.Deep.QuietTactic
import Derived.Lib.OthersKept
import Derived.Test.YthcggjehihkdoaaProg
import Derived.Deep.DeepFit
import Derived.Test.YthcggjehihkdoaaTkI
import Derived.Test.YthcggjehihkdoaaTkG
import Derived.Test.YthcggjehihkdoaaTkD
set_option linter.unusedVariables false
set_option linter.unusedSimpArgs false
namespace Go.Proofs.Ythcggjehihkdoaa
open Go Go.RowKit Go.Shelf
open Go.Proofs (encStr)

set_option maxHeartbeats 4000000 in
set_option maxRecDepth 100000 in
/-- **same**, of two that are alike -/
theorem same_true (v1 v2 : Value) (a : List (List UInt8)) (w : World) (hlen : a.length ≤ 1000000) (h1 : TS w v1 a) (h2 : TS w v2 a) :
    Calls Try.prog 23 #[v1, v2] w fun e w' => e = .returned (.bool true) ∧ Below w.heap.size w w' := by
  have h10 := h1
  have h20 := h2
  obtain ⟨A1, c1, rfl, ⟨-, hm1⟩, -⟩ := h1
  obtain ⟨A2, c2, rfl, ⟨-, hm2⟩, -⟩ := h2
  obtain ⟨n, hn⟩ : ∃ n, a.length = n := ⟨_, rfl⟩
  obtain ⟨B, hB⟩ : ∃ B, w.heap.size = B := ⟨_, rfl⟩
  have H1 : Hid (∀ wr, Below B w wr → TS wr (.slice A1 n c1) a) := fun wr hb => by rw [← hn]; exact h10.below (hB ▸ hb)
  have H2 : Hid (∀ wr, Below B w wr → TS wr (.slice A2 n c2) a) := fun wr hb => by rw [← hn]; exact h20.below (hB ▸ hb)
  rw [hn] at hlen ⊢
  have HN := Lib.hid hn
  have q0 : ((n : Int) != (n : Int)) = false := by simp
  clear h10 h20 hn
  rw [hB]
  go_enter Try.func23, Try.ntmps23
  go_wp2
  go_loopw [13, 5] (fun i x wr => ∃ k : Nat, (i = .int .i64 (k : Int) ∧ k ≤ n) ∧ Mine B w wr) (fun i _ _ => n - (intOf i).toNat)
  case atStart => exact ⟨0, ⟨rfl, Nat.zero_le _⟩, by rw [← hB]; exact Mine.refl w⟩
  case round =>
    obtain ⟨k, ⟨rfl, hk⟩, hmi⟩ := hrel
    by_cases hlt : k < n
    · have hkc : k < a.length := by rw [HN.out]; exact hlt
      obtain ⟨g1, o1, rfl, d1⟩ := (H1.out _ hmi.bel).at k hkc
      obtain ⟨g2, o2, rfl, d2⟩ := (H2.out _ hmi.bel).at k hkc
      obtain ⟨xk, hxk⟩ : ∃ xk : ByteArray, (⟨(a[k]).toArray⟩ : ByteArray) = xk := ⟨_, rfl⟩
      rw [hxk] at d1 d2
      have HM := Lib.hid hmi
      have e0 : decide (k < n) = true := decide_eq_true hlt
      have k0 : (0 : Int) ≤ (k : Int) := by omega
      have k1 : (k : Int) < (n : Int) := by omega
      clear hxk hmi
      go_wp2_with fail
      go_quiet (fail)
      go_wp2
      go_roundw
      case rel => exact ⟨k + 1, ⟨by go_num, by omega⟩, HM.out.drewN _⟩
      case measure => simp [intOf]; omega
    · have e0 : decide (k < n) = false := decide_eq_false hlt
      have HM := Lib.hid hmi
      clear hmi
      go_wp2
      go_ret
      exact ⟨rfl, HM.out.bel⟩
def aw12 : List UInt8 := [84, 111, 32, 98, 101, 44, 32, 111, 114, 32, 110, 111, 116, 32, 116, 111, 32, 98, 101, 33]
theorem aw12_set : srt (words aw12) = [[98, 101], [110, 111, 116], [111, 114], [116, 111]] := by decide +kernel
set_option maxHeartbeats 4000000 in
set_option maxRecDepth 100000 in
/-- **awake** -/
theorem awake12_any (w : World) : Calls Try.prog 22 #[] w fun e w' => e = .returned (.bool true) ∧ Below w.heap.size w w' := by
  have kc := fun (w : World) (C : Array Value) (n c : Nat) => Lib.run_convert_bytes_const (P := Try.prog) w 22 5 C n c Try.underlying22 Try.underlying5
  have hb0 : Below w.heap.size w (w.alloc (.cells #[.int .u8 84, .int .u8 111, .int .u8 32, .int .u8 98, .int .u8 101, .int .u8 44, .int .u8 32, .int .u8 111, .int .u8 114, .int .u8 32, .int .u8 110, .int .u8 111, .int .u8 116, .int .u8 32, .int .u8 116, .int .u8 111, .int .u8 32, .int .u8 98, .int .u8 101, .int .u8 33] 5 (20, 21))) := (Below.refl _ _).alloc (Nat.le_refl _) _
  have h1 := set_any _ aw12 _ (by decide) (SB_mark w #[.int .u8 84, .int .u8 111, .int .u8 32, .int .u8 98, .int .u8 101, .int .u8 44, .int .u8 32, .int .u8 111, .int .u8 114, .int .u8 32, .int .u8 110, .int .u8 111, .int .u8 116, .int .u8 32, .int .u8 116, .int .u8 111, .int .u8 32, .int .u8 98, .int .u8 101, .int .u8 33] aw12 20 (20, 21) rfl (by decide) rfl)
  rw [aw12_set] at h1
  have H1 := Lib.hid h1
  have HB0 := Lib.hid hb0
  clear h1 hb0
  go_enter Try.func22, Try.ntmps22
  go_wp2_with fail
  refine H1.out.mono ?_
  rintro e w1 ⟨u, rfl, ho, hb1⟩
  have hts := ho.reads
  obtain ⟨A, c, rfl, -, -⟩ := ho.reads
  obtain ⟨g, o, rfl, c0⟩ := hts.at 0 (by decide)
  obtain ⟨g', o', e, c3⟩ := hts.at 3 (by decide)
  cases e
  have c0' : w1.cell? ⟨g, o, none⟩ = some (.string ⟨#[98, 101]⟩) := c0
  have c3' : w1.cell? ⟨g, o + 3, none⟩ = some (.string ⟨#[116, 111]⟩) := c3
  have HB1 := Lib.hid (HB0.out.trans (hb1.mono HB0.out.size))
  clear c0 c3 hts ho hb1
  have hl : [[98, 101], [110, 111, 116], [111, 114], ([116, 111] : List UInt8)].length = 4 := rfl
  rw [hl]
  clear hl
  go_wp2
  go_ret
  exact ⟨rfl, HB1.out⟩
theorem few_facts (L m : Nat) : (decide ((m : Int) < (L : Int)) = decide (m < L)) := by
  by_cases h : m < L
  · rw [decide_eq_true h, decide_eq_true (by omega)]
  · rw [decide_eq_false h, decide_eq_false (by omega)]
set_option maxHeartbeats 4000000 in
set_option maxRecDepth 100000 in
theorem tokenWords_walk (v : Value) (l : List UInt8) (w : World) (h : SB w v l) :
    Calls Try.prog 9 #[v] w fun e w' => e = .returned (.bool true) ∧ Below w.heap.size w w' := by
  obtain ⟨A, c, rfl, -, -, -⟩ := h.form
  obtain ⟨L, hL⟩ : ∃ L, l.length = L := ⟨_, rfl⟩
  have HL := Lib.hid hL
  have HS := Lib.hid h
  rw [hL] at HS ⊢
  obtain ⟨B, hB⟩ : ∃ B, w.heap.size = B := ⟨_, rfl⟩
  have haw := awake12_any w
  rw [hB] at haw ⊢
  have HAW := Lib.hid haw
  have HSB : Hid (∀ w', Below B w w' → SB w' (.slice A L c) l) := fun w' hb => HS.out.below (hB ▸ hb)
  have hwl := words_len l
  have HWL : Hid ((words l).length ≤ L + 1) := by show _ ≤ _; rw [← hL]; exact hwl
  clear h hL haw hwl
  by_cases hlen : L ≤ 2000
  · have q0 : decide ((2000 : Int) < (L : Int)) = false := decide_eq_false (by omega)
    have q0' : decide (2000 < L) = false := decide_eq_false (by omega)
    go_enter Try.func9, Try.ntmps9
    go_wp2_with fail
    refine HAW.out.mono ?_
    rintro e w1 ⟨rfl, hb1⟩
    have HB1 := Lib.hid hb1
    have hc1 := words_any _ l w1 (by have := HL.out; omega) (HSB.out _ hb1)
    have HC1 := Lib.hid hc1
    clear hb1 hc1
    go_wp2_with fail
    refine HC1.out.mono ?_
    rintro e w2 ⟨u2, rfl, ho2, hb2⟩
    have hn1 : B ≤ w1.heap.size := by rw [← hB]; exact HB1.out.size
    have hb12 := HB1.out.trans (hb2.mono hn1)
    have hc2 := qwords_any _ l w2 (by have := HL.out; omega) (HSB.out _ hb12)
    have HC2 := Lib.hid hc2
    have HB2 := Lib.hid hb12
    have HO2 := Lib.hid ho2
    clear hb2 hb12 hc2 ho2 hn1
    go_wp2_with fail
    refine HC2.out.mono ?_
    rintro e w3 ⟨u3, rfl, ho3, hb3⟩
    have hn2 : B ≤ w2.heap.size := by rw [← hB]; exact HB2.out.size
    have hb13 := HB2.out.trans (hb3.mono hn2)
    have hc3 := same_true _ _ (words l) w3 (by have := HWL.out; omega) (HO2.out.reads.below hb3) ho3.reads
    have HC3 := Lib.hid hc3
    have HB3 := Lib.hid hb13
    clear hb3 hb13 hc3 ho3 hn2
    go_wp2_with fail
    refine HC3.out.mono ?_
    rintro e w4 ⟨rfl, hb4⟩
    have HB4 := Lib.hid (HB3.out.trans (hb4.mono (by rw [← hB]; exact HB3.out.size)))
    clear hb4
    go_wp2
    go_ret
    exact ⟨rfl, HB4.out⟩
  · have q0 : decide ((2000 : Int) < (L : Int)) = true := decide_eq_true (by omega)
    have q0' : decide (2000 < L) = true := decide_eq_true (by omega)
    go_enter Try.func9, Try.ntmps9
    go_wp2_with fail
    refine HAW.out.mono ?_
    rintro e w1 ⟨rfl, hb1⟩
    have HB1 := Lib.hid hb1
    clear hb1
    go_wp2
    go_ret
    exact ⟨rfl, HB1.out⟩
set_option maxHeartbeats 4000000 in
set_option maxRecDepth 100000 in
theorem tokenSets_walk (v : Value) (l : List UInt8) (w : World) (h : SB w v l) :
    Calls Try.prog 8 #[v] w fun e w' => e = .returned (.bool true) ∧ Below w.heap.size w w' := by
  obtain ⟨A, c, rfl, -, -, -⟩ := h.form
  obtain ⟨L, hL⟩ : ∃ L, l.length = L := ⟨_, rfl⟩
  have HL := Lib.hid hL
  have HS := Lib.hid h
  rw [hL] at HS ⊢
  obtain ⟨B, hB⟩ : ∃ B, w.heap.size = B := ⟨_, rfl⟩
  have haw := awake12_any w
  rw [hB] at haw ⊢
  have HAW := Lib.hid haw
  have HSB : Hid (∀ w', Below B w w' → SB w' (.slice A L c) l) := fun w' hb => HS.out.below (hB ▸ hb)
  have hwl := words_len l
  have hsl := srt_len (words l)
  have HWL : Hid ((words l).length ≤ L + 1 ∧ (srt (words l)).length ≤ L + 1) := by
    rw [← hL]; exact ⟨hwl, by omega⟩
  clear h hL haw hwl hsl
  by_cases hlen : L ≤ 2000
  · have q0 : decide ((2000 : Int) < (L : Int)) = false := decide_eq_false (by omega)
    have q0' : decide (2000 < L) = false := decide_eq_false (by omega)
    go_enter Try.func8, Try.ntmps8
    go_wp2_with fail
    refine HAW.out.mono ?_
    rintro e w1 ⟨rfl, hb1⟩
    have HB1 := Lib.hid hb1
    have hc1 := set_any _ l w1 (by have := HL.out; omega) (HSB.out _ hb1)
    have HC1 := Lib.hid hc1
    clear hb1 hc1
    go_wp2_with fail
    refine HC1.out.mono ?_
    rintro e w2 ⟨u2, rfl, ho2, hb2⟩
    have hn1 : B ≤ w1.heap.size := by rw [← hB]; exact HB1.out.size
    have hb12 := HB1.out.trans (hb2.mono hn1)
    have hc2 := qwords_any _ l w2 (by have := HL.out; omega) (HSB.out _ hb12)
    have HC2 := Lib.hid hc2
    have HB2 := Lib.hid hb12
    have HO2 := Lib.hid ho2
    clear hb2 hb12 hc2 ho2 hn1
    go_wp2_with fail
    refine HC2.out.mono ?_
    rintro e w3 ⟨u3, rfl, ho3, hb3⟩
    have hn2 : B ≤ w2.heap.size := by rw [← hB]; exact HB2.out.size
    have hb13 := HB2.out.trans (hb3.mono hn2)
    have hc3 := qsorted_any _ (words l) w3 (by have := HWL.out.1; omega) ho3.reads
    have HC3 := Lib.hid hc3
    have HB3 := Lib.hid hb13
    have HO3 := Lib.hid (HO2.out.below hb3)
    clear hb3 hb13 hc3 ho3 hn2 HO2
    go_wp2_with fail
    refine HC3.out.mono ?_
    rintro e w4 ⟨u4, rfl, ho4, hb4⟩
    have hb14 := HB3.out.trans (hb4.mono (by rw [← hB]; exact HB3.out.size))
    have hc4 := same_true _ _ (srt (words l)) w4 (by have := HWL.out.2; omega) (HO3.out.reads.below hb4) ho4.reads
    have HC4 := Lib.hid hc4
    have HB4 := Lib.hid hb14
    clear hb4 hb14 hc4 ho4
    go_wp2_with fail
    refine HC4.out.mono ?_
    rintro e w5 ⟨rfl, hb5⟩
    have HB5 := Lib.hid (HB4.out.trans (hb5.mono (by rw [← hB]; exact HB4.out.size)))
    clear hb5
    go_wp2
    go_ret
    exact ⟨rfl, HB5.out⟩
  · have q0 : decide ((2000 : Int) < (L : Int)) = true := decide_eq_true (by omega)
    have q0' : decide (2000 < L) = true := decide_eq_true (by omega)
    go_enter Try.func8, Try.ntmps8
    go_wp2_with fail
    refine HAW.out.mono ?_
    rintro e w1 ⟨rfl, hb1⟩
    have HB1 := Lib.hid hb1
    clear hb1
    go_wp2
    go_ret
    exact ⟨rfl, HB1.out⟩
end Go.Proofs.Ythcggjehihkdoaa

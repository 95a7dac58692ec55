/- HoldLifts. -/
import Derived.RangeFuncNested
import Derived.RangeFuncBound
import Derived.RangeFuncCalls
import Derived.RangeFuncLeaves
import Derived.Shelf.Abstract
import Derived.Shelf.RegionOpen
import Derived.WalkKit
import Derived.OwnWalkIn
import Derived.TacticsInMore
import Derived.LoopNIn
import Derived.LoopIn
import Derived.Outline
import Derived.Lib.Hide
import Derived.Lib.SliceRun
import Derived.IntWalk
import Derived.WalkLawsBesides
import Derived.WalkSpells
import Derived.Laws.BitsAllLaws
import Derived.Lib.ConvBytes
import Derived.Maps.AppendAt
import Derived.Lib.AppendStr
import Derived.Lib.SlBytesConst
import Derived.Laws.AppendOwnNone
import Derived.Laws.OwnMore
import Derived.Laws.BytesArg
import Derived.Deep.RegionHeld3
import Derived.BigQuiet
import Derived.Deep.RegionLaw
import Derived.Deep.QuietTactic
import Derived.Lib.OthersKept
import Derived.Test.YtofdfcngmkkfdaaProg
import Derived.Deep.DeepFit
import Derived.Test.YtofdfcngmkkfdaaHoP
set_option linter.unusedVariables false
set_option linter.unusedSimpArgs false
namespace Go.Proofs.Ytofdfcngmkkfdaa
open Go Go.RowKit Go.Shelf

set_option maxRecDepth 100000 in
set_option maxHeartbeats 4000000 in
/-- **HoldLifts** -/
theorem holdLifts_walk (v : Value) (hs : List Ru) (s : ByteArray) (w : World) (hv : PV w v (ruV hs) ∧ ∀ c ∈ hs, c.1.size ≤ maxLen ∧ c.2.size ≤ maxLen) (hs' : s.size ≤ maxLen) :
    Calls Try.prog 17 #[v, .string s] w fun e w' => e = .returned (.bool true) ∧ Below w.heap.size w w' := by
  obtain ⟨hv, hsz⟩ := hv
  have hv0 := hv
  obtain ⟨A, c, rfl, hc1, -⟩ := hv
  rw [ruV_len] at hv0 hc1 ⊢
  obtain ⟨n, hn⟩ : ∃ n, hs.length = n := ⟨_, rfl⟩
  rw [hn] at hv0 hc1 ⊢
  obtain ⟨B, hB⟩ : ∃ B, w.heap.size = B := ⟨_, rfl⟩
  have m0 : Mine B w w := by rw [← hB]; exact Mine.refl w
  have hgv : ∀ wr, Mine B w wr → PV wr (.slice A n c) (ruV hs) := fun wr h => hv0.below (hB ▸ h.bel)
  have hfw := fun w => few14_any A none n 0 c 0 ⟨#[]⟩ 0 w
  obtain ⟨b, hb⟩ : ∃ b, few14B n 0 = b := ⟨_, rfl⟩
  simp only [hb] at hfw
  have HFW := Lib.hid hfw
  have HB := Lib.hid hb
  have M0 := Lib.hid m0
  have HV := Lib.hid hgv
  have HN := Lib.hid hn
  clear hfw hb m0 hgv hn hv0 hsz hs'
  go_enter Try.func17, Try.ntmps17
  go_wp2_with fail
  refine (awake14_any _).mono ?_
  rintro e w1 ⟨rfl, hb1⟩
  have M1 := Lib.hid (M0.out.call hb1)
  clear hb1 M0
  go_wp2_with fail
  refine (HFW.out _).mono ?_
  rintro e w2 ⟨rfl, hb2⟩
  have M2 := Lib.hid (M1.out.call hb2)
  clear hb2 M1
  cases b with
  | false =>
    go_wp2
    go_ret
    exact ⟨rfl, by first | exact M2.out.bel | (rw [hB]; exact M2.out.bel)⟩
  | true =>
    have hl : hs.length ≤ 1000 := by
      have := HB.out
      unfold few14B at this
      simp at this
      have h2 := HN.out
      omega
    have hp := fun W h => lift_any (.slice A n c) hs s W hl (HV.out W h)
    have hrp := fun W h => rlift_any (.slice A n c) hs s W hl (HV.out W h)
    have hna := fun W h => names_any (.slice A n c) hs W hl (HV.out W h)
    have hll : (lfL hs s).length ≤ 1001 := by
      unfold lfL
      split
      · simp
      · simp; omega
    obtain ⟨z, hz⟩ : ∃ z, lfE hs s = z := ⟨_, rfl⟩
    obtain ⟨L, hL⟩ : ∃ L, lfL hs s = L := ⟨_, rfl⟩
    simp only [hz, hL] at hp hrp
    rw [hL] at hll
    have HP := Lib.hid hp
    have HRP := Lib.hid hrp
    have HNA := Lib.hid hna
    have HLL := Lib.hid hll
    clear hp hrp hna hz hL hll hl HB
    go_wp2_with fail
    refine (HP.out _ M2.out).mono ?_
    rintro e w3 ⟨u1, rfl, hown1, hb3⟩
    have M3 := Lib.hid (M2.out.call hb3)
    have P1 := Lib.hid hown1.reads
    clear hown1 hb3
    go_wp2_with fail
    refine (HRP.out _ M3.out).mono ?_
    rintro e w4 ⟨u2, rfl, hown2, hb4⟩
    have M4 := Lib.hid (M3.out.call hb4)
    have P2 := Lib.hid (P1.out.below hb4)
    have P3 := Lib.hid hown2.reads
    clear hown2 hb4 P1
    go_wp2_with fail
    refine (HNA.out _ M4.out).mono ?_
    rintro e w5 ⟨u3, rfl, htv, hb5⟩
    have M5 := Lib.hid (M4.out.call hb5)
    have P4 := Lib.hid (P2.out.below hb5)
    have P5 := Lib.hid (P3.out.below hb5)
    have htv0 := htv
    obtain ⟨A3, c3, rfl, hc3, -⟩ := htv
    have hlm : (List.map (fun s : ByteArray => Value.string s) (hs.map (·.1))).length = n := by rw [List.length_map, List.length_map]; exact HN.out
    rw [hlm] at htv0 hc3 ⊢
    have HTV := Lib.hid htv0
    clear htv0 hb5 P2 P3 M4 hlm
    have dn : ((n : Int) != (n : Int)) = false := by simp
    obtain ⟨Q5, hQ5⟩ : ∃ Q, w5.heap.size = Q := ⟨_, rfl⟩
    go_wp2
    go_loopw [38, 10] (fun i x wr => ∃ k : Nat, (i = .int .i64 (k : Int) ∧ k ≤ n) ∧ Below Q5 w5 wr) (fun i _ _ => n - (intOf i).toNat)
    case atStart => exact ⟨0, ⟨rfl, Nat.zero_le _⟩, Below.refl _ _⟩
    case round =>
      obtain ⟨k, ⟨rfl, hk⟩, hb⟩ := hrel
      rw [← hQ5] at hb
      by_cases hlt : k < n
      · have hkc : k < hs.length := by rw [HN.out]; exact hlt
        obtain ⟨g, o, rfl, c0, c1⟩ := (HV.out _ (M5.out.call hb)).at_ k _ (ruV_get hs k hkc)
        obtain ⟨g', o', rfl, cc⟩ := TV.at_ (HTV.out.below hb) k (by rw [List.length_map]; exact hkc)
        rw [List.getElem_map] at cc
        obtain ⟨nk, hnk⟩ : ∃ nm, hs[k].1 = nm := ⟨_, rfl⟩
        rw [hnk] at c0 cc
        have d0 : decide (k < n) = true := decide_eq_true hlt
        have k0 : (0 : Int) ≤ (k : Int) := by omega
        have k1 : (k : Int) < (n : Int) := by omega
        have HB := Lib.hid hb
        clear hnk hb c1
        go_wp2_with fail
        go_quiet (fail)
        go_wp2
        go_roundw
        case rel => exact ⟨k + 1, ⟨by go_num, by omega⟩, by rw [← hQ5]; exact below_drewN HB.out _⟩
        case measure => simp [intOf]; omega
      · have d0 : decide (k < n) = false := decide_eq_false hlt
        have M6 := Lib.hid (M5.out.call hb)
        have P6 := Lib.hid (P4.out.below hb)
        have P7 := Lib.hid (P5.out.below hb)
        clear hb P4 P5 M5
        have dz : (z == z) = true := by simp
        go_wp2_with fail
        refine (rsame_any _ _ L _ (by have := HLL.out; omega) P6.out P7.out).mono ?_
        rintro e w7 ⟨rfl, hb7⟩
        have M7 := Lib.hid (M6.out.call hb7)
        clear hb7
        go_wp2
        go_ret
        exact ⟨rfl, by first | exact M7.out.bel | (rw [hB]; exact M7.out.bel)⟩
end Go.Proofs.Ytofdfcngmkkfdaa

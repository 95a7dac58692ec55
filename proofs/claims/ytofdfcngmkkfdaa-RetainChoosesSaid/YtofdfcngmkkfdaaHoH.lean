/- the reference's Hold. -/
import Derived.RangeFuncNested
import Derived.RangeFuncBound
import Derived.RangeFuncCalls
import Derived.RangeFuncLeaves
import Derived.Shelf.Abstract
import Derived.Shelf.RegionOpen
import Derived.WalkKit
import Derived.OwnWalkIn
import Derived.TacticsInMore
import Derived.LoopNIn
import Derived.LoopIn
import Derived.Outline
import Derived.Lib.Hide
import Derived.Lib.SliceRun
import Derived.IntWalk
import Derived.WalkLawsBesides
import Derived.WalkSpells
import Derived.Laws.BitsAllLaws
import Derived.Lib.ConvBytes
import Derived.Maps.AppendAt
import Derived.Lib.AppendStr
import Derived.Lib.SlBytesConst
import Derived.Laws.AppendOwnNone
import Derived.Laws.OwnMore
import Derived.Laws.BytesArg
import Derived.Deep.RegionHeld3
import Derived.BigQuiet
import Derived.Deep.RegionLaw
import Derived.Deep.QuietTactic
import Derived.Lib.OthersKept
import Derived.Test.YtofdfcngmkkfdaaProg
import Derived.Deep.DeepFit
import Derived.Test.YtofdfcngmkkfdaaHoG
set_option linter.unusedVariables false
set_option linter.unusedSimpArgs false
namespace Go.Proofs.Ytofdfcngmkkfdaa
open Go Go.RowKit Go.Shelf

set_option maxRecDepth 100000 in
set_option maxHeartbeats 8000000 in
/-- **the reference's Hold** -/
theorem rhold_any (nm who : ByteArray) (hm : nm.size ≤ maxLen) (hw : who.size ≤ maxLen) (w : World) :
    Calls Try.prog 70 #[.agg #[.string nm, .string who]] w fun e w' => e = .returned (.bool (mayB (nm, who))) ∧ Below w.heap.size w w' := by
  unfold maxLen at hm
  have b0 : Below w.heap.size w (w.alloc (.cells #[.string nm, .string who] 47)) := (Below.refl _ _).alloc (Nat.le_refl _) _
  have r0 : Row (w.alloc (.cells #[.string nm, .string who] 47)) w.heap.size 47 [.string nm, .string who] := Row.new w _ _
  obtain ⟨B, hB⟩ : ∃ B, w.heap.size = B := ⟨_, rfl⟩
  obtain ⟨W, hW⟩ : ∃ W, w.alloc (.cells #[.string nm, .string who] 47) = W := ⟨_, rfl⟩
  have hent : (w.alloc (.cells #[.string nm, .string who] 47)) = W := hW
  rw [hW] at b0 r0
  rw [hB] at r0 b0
  have c0 := r0.cell0
  have c1 := r0.cell1
  have B0 := Lib.hid b0
  obtain ⟨r, hr⟩ : ∃ r, mayB (nm, who) = r := ⟨_, rfl⟩
  have HR : Hid ((decide (1 ≤ nm.size) && decide (nm.size ≤ 30) && (decide (who.size = 0) || mailB (bl who)) && ofN signN (bl nm)) = r) := hr
  rw [hr]
  have hmb := fun w => rmailbox_any who hw w
  obtain ⟨mb, hmbv⟩ : ∃ mb, mailB (bl who) = mb := ⟨_, rfl⟩
  simp only [hmbv] at hmb
  rw [hmbv] at HR
  have HM := Lib.hid hmb
  clear b0 r0 hr hent hmb hmbv
  go_enter Try.func70, Try.ntmps70
  go_wp2
  try rw [hW]
  try rw [hB]
  go_loop [3, 4] (fun i x => ∃ k : Nat, (i = .int .i64 (k : Int) ∧ k ≤ nm.size) ∧ ofN signN ((bl nm).take k) = true) (fun i _ => nm.size - (intOf i).toNat)
  case atStart => exact ⟨0, ⟨rfl, Nat.zero_le _⟩, rfl⟩
  case round =>
    obtain ⟨k, ⟨rfl, hk⟩, hl⟩ := hrel
    have HL := Lib.hid hl
    clear hl
    by_cases hlt : k < nm.size
    · have hg := bl_get nm k hlt
      have hcl := gb_lt (bl nm) k
      have hsn := ofN_snoc signN (bl nm) k (by rw [bl_len]; exact hlt)
      have hno := ofN_not signN (bl nm) k (by rw [bl_len]; exact hlt)
      obtain ⟨c, hcc⟩ : ∃ c, gb (bl nm) k = c := ⟨_, rfl⟩
      rw [hcc] at hg hsn hno hcl
      rw [HL.out, Bool.true_and] at hsn
      have HSN := Lib.hid hsn
      have HNO := Lib.hid hno
      have d0 : decide (k < nm.size) = true := decide_eq_true hlt
      clear hsn hno hcc
      rcases (by omega : (c = 45 ∨ (48 ≤ c ∧ c ≤ 57) ∨ (97 ≤ c ∧ c ≤ 122)) ∨ ¬ (c = 45 ∨ (48 ≤ c ∧ c ≤ 57) ∨ (97 ≤ c ∧ c ≤ 122))) with hsg | hsg
      · have hy := signN_yes hsg
        have HY := Lib.hid hy
        have HS := Lib.hid hsg
        clear hy hsg
        rcases HS.out with hsg | hsg | hsg
        · have e1 : decide (97 ≤ c) = false := decide_eq_false (by omega)
          have e2 : decide ((97 : Int) ≤ (c : Int)) = false := decide_eq_false (by omega)
          have e3 : decide (48 ≤ c) = false := decide_eq_false (by omega)
          have e4 : decide ((48 : Int) ≤ (c : Int)) = false := decide_eq_false (by omega)
          have e5 : (c == 45) = true := by simp; omega
          have e6 : ((c : Int) == 45) = true := by simp; omega
          clear hsg hcl
          go_wp2
          go_round
          case rel => exact ⟨k + 1, ⟨by go_num, by omega⟩, by rw [HSN.out]; exact HY.out⟩
          case measure => simp [intOf]; omega
        · have e1 : decide (97 ≤ c) = false := decide_eq_false (by omega)
          have e2 : decide ((97 : Int) ≤ (c : Int)) = false := decide_eq_false (by omega)
          have e3 : decide (48 ≤ c) = true := decide_eq_true (by omega)
          have e4 : decide ((48 : Int) ≤ (c : Int)) = true := decide_eq_true (by omega)
          have e5 : decide (c ≤ 57) = true := decide_eq_true (by omega)
          have e6 : decide ((c : Int) ≤ 57) = true := decide_eq_true (by omega)
          clear hsg hcl
          go_wp2
          go_round
          case rel => exact ⟨k + 1, ⟨by go_num, by omega⟩, by rw [HSN.out]; exact HY.out⟩
          case measure => simp [intOf]; omega
        · have e1 : decide (97 ≤ c) = true := decide_eq_true (by omega)
          have e2 : decide ((97 : Int) ≤ (c : Int)) = true := decide_eq_true (by omega)
          have e3 : decide (c ≤ 122) = true := decide_eq_true (by omega)
          have e4 : decide ((c : Int) ≤ 122) = true := decide_eq_true (by omega)
          clear hsg hcl
          go_wp2
          go_round
          case rel => exact ⟨k + 1, ⟨by go_num, by omega⟩, by rw [HSN.out]; exact HY.out⟩
          case measure => simp [intOf]; omega
      · have hf : r = false := by rw [← HR.out, HNO.out (signN_no hsg), Bool.and_false]
        subst hf
        rcases (by omega : (c < 45) ∨ (45 ≤ c ∧ c < 46) ∨ (46 ≤ c ∧ c < 48) ∨ (48 ≤ c ∧ c < 58) ∨ (58 ≤ c ∧ c < 97) ∨ (97 ≤ c ∧ c < 123) ∨ (123 ≤ c)) with hr | hr | hr | hr | hr | hr | hr
        · have dn1 : decide (97 ≤ c) = false := by simp; omega
          have dn2 : decide ((97 : Int) ≤ (c : Int)) = false := by simp; omega
          have dn3 : decide (48 ≤ c) = false := by simp; omega
          have dn4 : decide ((48 : Int) ≤ (c : Int)) = false := by simp; omega
          have dn5 : decide (c ≤ 122) = true := by simp; omega
          have dn6 : decide ((c : Int) ≤ 122) = true := by simp; omega
          have dn7 : decide (c ≤ 57) = true := by simp; omega
          have dn8 : decide ((c : Int) ≤ 57) = true := by simp; omega
          have dn9 : (c == 45) = false := by simp; omega
          have dn10 : ((c : Int) == 45) = false := by simp; omega
          first
          | (exfalso; omega)
          | (clear hsg hcl
             go_wp2
             go_ret
             exact ⟨rfl, by first | exact B0.out | (rw [hB]; exact B0.out)⟩)
        · have dn1 : decide (97 ≤ c) = false := by simp; omega
          have dn2 : decide ((97 : Int) ≤ (c : Int)) = false := by simp; omega
          have dn3 : decide (48 ≤ c) = false := by simp; omega
          have dn4 : decide ((48 : Int) ≤ (c : Int)) = false := by simp; omega
          have dn5 : decide (c ≤ 122) = true := by simp; omega
          have dn6 : decide ((c : Int) ≤ 122) = true := by simp; omega
          have dn7 : decide (c ≤ 57) = true := by simp; omega
          have dn8 : decide ((c : Int) ≤ 57) = true := by simp; omega
          have dn9 : (c == 45) = true := by simp; omega
          have dn10 : ((c : Int) == 45) = true := by simp; omega
          first
          | (exfalso; omega)
          | (clear hsg hcl
             go_wp2
             go_ret
             exact ⟨rfl, by first | exact B0.out | (rw [hB]; exact B0.out)⟩)
        · have dn1 : decide (97 ≤ c) = false := by simp; omega
          have dn2 : decide ((97 : Int) ≤ (c : Int)) = false := by simp; omega
          have dn3 : decide (48 ≤ c) = false := by simp; omega
          have dn4 : decide ((48 : Int) ≤ (c : Int)) = false := by simp; omega
          have dn5 : decide (c ≤ 122) = true := by simp; omega
          have dn6 : decide ((c : Int) ≤ 122) = true := by simp; omega
          have dn7 : decide (c ≤ 57) = true := by simp; omega
          have dn8 : decide ((c : Int) ≤ 57) = true := by simp; omega
          have dn9 : (c == 45) = false := by simp; omega
          have dn10 : ((c : Int) == 45) = false := by simp; omega
          first
          | (exfalso; omega)
          | (clear hsg hcl
             go_wp2
             go_ret
             exact ⟨rfl, by first | exact B0.out | (rw [hB]; exact B0.out)⟩)
        · have dn1 : decide (97 ≤ c) = false := by simp; omega
          have dn2 : decide ((97 : Int) ≤ (c : Int)) = false := by simp; omega
          have dn3 : decide (48 ≤ c) = true := by simp; omega
          have dn4 : decide ((48 : Int) ≤ (c : Int)) = true := by simp; omega
          have dn5 : decide (c ≤ 122) = true := by simp; omega
          have dn6 : decide ((c : Int) ≤ 122) = true := by simp; omega
          have dn7 : decide (c ≤ 57) = true := by simp; omega
          have dn8 : decide ((c : Int) ≤ 57) = true := by simp; omega
          have dn9 : (c == 45) = false := by simp; omega
          have dn10 : ((c : Int) == 45) = false := by simp; omega
          first
          | (exfalso; omega)
          | (clear hsg hcl
             go_wp2
             go_ret
             exact ⟨rfl, by first | exact B0.out | (rw [hB]; exact B0.out)⟩)
        · have dn1 : decide (97 ≤ c) = false := by simp; omega
          have dn2 : decide ((97 : Int) ≤ (c : Int)) = false := by simp; omega
          have dn3 : decide (48 ≤ c) = true := by simp; omega
          have dn4 : decide ((48 : Int) ≤ (c : Int)) = true := by simp; omega
          have dn5 : decide (c ≤ 122) = true := by simp; omega
          have dn6 : decide ((c : Int) ≤ 122) = true := by simp; omega
          have dn7 : decide (c ≤ 57) = false := by simp; omega
          have dn8 : decide ((c : Int) ≤ 57) = false := by simp; omega
          have dn9 : (c == 45) = false := by simp; omega
          have dn10 : ((c : Int) == 45) = false := by simp; omega
          first
          | (exfalso; omega)
          | (clear hsg hcl
             go_wp2
             go_ret
             exact ⟨rfl, by first | exact B0.out | (rw [hB]; exact B0.out)⟩)
        · have dn1 : decide (97 ≤ c) = true := by simp; omega
          have dn2 : decide ((97 : Int) ≤ (c : Int)) = true := by simp; omega
          have dn3 : decide (48 ≤ c) = true := by simp; omega
          have dn4 : decide ((48 : Int) ≤ (c : Int)) = true := by simp; omega
          have dn5 : decide (c ≤ 122) = true := by simp; omega
          have dn6 : decide ((c : Int) ≤ 122) = true := by simp; omega
          have dn7 : decide (c ≤ 57) = false := by simp; omega
          have dn8 : decide ((c : Int) ≤ 57) = false := by simp; omega
          have dn9 : (c == 45) = false := by simp; omega
          have dn10 : ((c : Int) == 45) = false := by simp; omega
          first
          | (exfalso; omega)
          | (clear hsg hcl
             go_wp2
             go_ret
             exact ⟨rfl, by first | exact B0.out | (rw [hB]; exact B0.out)⟩)
        · have dn1 : decide (97 ≤ c) = true := by simp; omega
          have dn2 : decide ((97 : Int) ≤ (c : Int)) = true := by simp; omega
          have dn3 : decide (48 ≤ c) = true := by simp; omega
          have dn4 : decide ((48 : Int) ≤ (c : Int)) = true := by simp; omega
          have dn5 : decide (c ≤ 122) = false := by simp; omega
          have dn6 : decide ((c : Int) ≤ 122) = false := by simp; omega
          have dn7 : decide (c ≤ 57) = false := by simp; omega
          have dn8 : decide ((c : Int) ≤ 57) = false := by simp; omega
          have dn9 : (c == 45) = false := by simp; omega
          have dn10 : ((c : Int) == 45) = false := by simp; omega
          first
          | (exfalso; omega)
          | (clear hsg hcl
             go_wp2
             go_ret
             exact ⟨rfl, by first | exact B0.out | (rw [hB]; exact B0.out)⟩)
    · have d0 : decide (k < nm.size) = false := decide_eq_false hlt
      have hof := ofN_all signN (bl nm) k HL.out (by rw [bl_len]; omega)
      have hr2 := HR.out
      rw [hof, Bool.and_true] at hr2
      clear HL hof
      by_cases h1 : 1 ≤ nm.size
      · have e1 : decide (1 ≤ nm.size) = true := decide_eq_true h1
        have e2 : decide ((1 : Int) ≤ (nm.size : Int)) = true := decide_eq_true (by omega)
        rw [e1, Bool.true_and] at hr2
        by_cases h2 : nm.size ≤ 30
        · have e3 : decide (nm.size ≤ 30) = true := decide_eq_true h2
          have e4 : decide ((nm.size : Int) ≤ 30) = true := decide_eq_true (by omega)
          rw [e3, Bool.true_and] at hr2
          by_cases h3 : 1 ≤ who.size
          · obtain ⟨em3, em4⟩ := empty_len h3
            rw [decide_eq_false (by omega), Bool.false_or] at hr2
            subst hr2
            clear h1 h2 h3
            go_wp2_with fail
            refine (HM.out _).mono ?_
            rintro e w1 ⟨rfl, hb1⟩
            go_wp2
            go_ret
            exact ⟨rfl, by first | exact B0.out.trans (hb1.mono (by rw [← hB]; rw [← hW]; rw [alloc_size]; omega)) | (rw [hB]; exact B0.out.trans (hb1.mono (by rw [← hB]; rw [← hW]; rw [alloc_size]; omega)))⟩
          · obtain ⟨em3, em4⟩ := isEmpty_zero (s := who) (by omega)
            rw [decide_eq_true (by omega : who.size = 0), Bool.true_or] at hr2
            subst hr2
            clear h1 h2 h3
            go_wp2
            go_ret
            exact ⟨rfl, by first | exact B0.out | (rw [hB]; exact B0.out)⟩
        · have e3 : decide (nm.size ≤ 30) = false := decide_eq_false h2
          have e4 : decide ((nm.size : Int) ≤ 30) = false := decide_eq_false (by omega)
          rw [e3, Bool.false_and] at hr2
          subst hr2
          go_wp2
          go_ret
          exact ⟨rfl, by first | exact B0.out | (rw [hB]; exact B0.out)⟩
      · have e1 : decide (1 ≤ nm.size) = false := decide_eq_false h1
        have e2 : decide ((1 : Int) ≤ (nm.size : Int)) = false := decide_eq_false (by omega)
        rw [e1, Bool.false_and, Bool.false_and] at hr2
        subst hr2
        go_wp2
        go_ret
        exact ⟨rfl, by first | exact B0.out | (rw [hB]; exact B0.out)⟩
end Go.Proofs.Ytofdfcngmkkfdaa

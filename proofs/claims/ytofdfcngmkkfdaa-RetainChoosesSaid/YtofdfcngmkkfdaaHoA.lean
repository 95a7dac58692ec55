/- hold: sign, may, find. -/
import Derived.RangeFuncNested
import Derived.RangeFuncBound
import Derived.RangeFuncCalls
import Derived.RangeFuncLeaves
import Derived.Shelf.Abstract
import Derived.Shelf.RegionOpen
import Derived.WalkKit
import Derived.OwnWalkIn
import Derived.TacticsInMore
import Derived.LoopNIn
import Derived.LoopIn
import Derived.Outline
import Derived.Lib.Hide
import Derived.Lib.SliceRun
import Derived.IntWalk
import Derived.WalkLawsBesides
import Derived.WalkSpells
import Derived.Laws.BitsAllLaws
import Derived.Lib.ConvBytes
import Derived.Maps.AppendAt
import Derived.Lib.AppendStr
import Derived.Lib.SlBytesConst
import Derived.Laws.AppendOwnNone
import Derived.Laws.OwnMore
import Derived.Laws.BytesArg
import Derived.Deep.RegionHeld3
import Derived.BigQuiet
import Derived.Deep.RegionLaw
import Derived.Deep.QuietTactic
import Derived.Lib.OthersKept
import Derived.Test.YtofdfcngmkkfdaaProg
import Derived.Deep.DeepFit
import Derived.Test.YtofdfcngmkkfdaaReI
set_option linter.unusedVariables false
set_option linter.unusedSimpArgs false
namespace Go.Proofs.Ytofdfcngmkkfdaa
open Go Go.RowKit Go.Shelf

def signN (c : Nat) : Bool := decide (c = 45) || decide (48 ≤ c ∧ c ≤ 57) || decide (97 ≤ c ∧ c ≤ 122)
theorem signN_yes {c : Nat} (h : c = 45 ∨ (48 ≤ c ∧ c ≤ 57) ∨ (97 ≤ c ∧ c ≤ 122)) : signN c = true := by
  simp only [signN, Bool.or_eq_true, decide_eq_true_eq]; omega
theorem signN_no {c : Nat} (h : ¬ (c = 45 ∨ (48 ≤ c ∧ c ≤ 57) ∨ (97 ≤ c ∧ c ≤ 122))) : signN c = false := by
  simp only [signN, Bool.or_eq_false_iff, decide_eq_false_iff_not]; omega
set_option maxHeartbeats 4000000 in
set_option maxRecDepth 100000 in
theorem sign_any (c : Nat) (h : c < 256) (w : World) :
    Calls Try.prog 85 #[.int .u8 (c : Int)] w fun e w' => e = .returned (.bool (signN c)) ∧ w' = w := by
  rcases (by omega : (c < 45) ∨ (45 ≤ c ∧ c < 46) ∨ (46 ≤ c ∧ c < 48) ∨ (48 ≤ c ∧ c < 58) ∨ (58 ≤ c ∧ c < 97) ∨ (97 ≤ c ∧ c < 123) ∨ (123 ≤ c)) with hr | hr | hr | hr | hr | hr | hr
  · have dn1 : decide (97 ≤ c) = false := by simp; omega
    have dn2 : decide ((97 : Int) ≤ (c : Int)) = false := by simp; omega
    have dn3 : decide (48 ≤ c) = false := by simp; omega
    have dn4 : decide ((48 : Int) ≤ (c : Int)) = false := by simp; omega
    have dn5 : decide (c ≤ 122) = true := by simp; omega
    have dn6 : decide ((c : Int) ≤ 122) = true := by simp; omega
    have dn7 : decide (c ≤ 57) = true := by simp; omega
    have dn8 : decide ((c : Int) ≤ 57) = true := by simp; omega
    have dn9 : (c == 45) = false := by simp; omega
    have dn10 : ((c : Int) == 45) = false := by simp; omega
    go_enter Try.func85, Try.ntmps85
    go_wp2
    go_ret
    exact ⟨ret_b (by first | rw [signN_yes (by omega)] | rw [signN_no (by omega)]), rfl⟩
  · have dn1 : decide (97 ≤ c) = false := by simp; omega
    have dn2 : decide ((97 : Int) ≤ (c : Int)) = false := by simp; omega
    have dn3 : decide (48 ≤ c) = false := by simp; omega
    have dn4 : decide ((48 : Int) ≤ (c : Int)) = false := by simp; omega
    have dn5 : decide (c ≤ 122) = true := by simp; omega
    have dn6 : decide ((c : Int) ≤ 122) = true := by simp; omega
    have dn7 : decide (c ≤ 57) = true := by simp; omega
    have dn8 : decide ((c : Int) ≤ 57) = true := by simp; omega
    have dn9 : (c == 45) = true := by simp; omega
    have dn10 : ((c : Int) == 45) = true := by simp; omega
    go_enter Try.func85, Try.ntmps85
    go_wp2
    go_ret
    exact ⟨ret_b (by first | rw [signN_yes (by omega)] | rw [signN_no (by omega)]), rfl⟩
  · have dn1 : decide (97 ≤ c) = false := by simp; omega
    have dn2 : decide ((97 : Int) ≤ (c : Int)) = false := by simp; omega
    have dn3 : decide (48 ≤ c) = false := by simp; omega
    have dn4 : decide ((48 : Int) ≤ (c : Int)) = false := by simp; omega
    have dn5 : decide (c ≤ 122) = true := by simp; omega
    have dn6 : decide ((c : Int) ≤ 122) = true := by simp; omega
    have dn7 : decide (c ≤ 57) = true := by simp; omega
    have dn8 : decide ((c : Int) ≤ 57) = true := by simp; omega
    have dn9 : (c == 45) = false := by simp; omega
    have dn10 : ((c : Int) == 45) = false := by simp; omega
    go_enter Try.func85, Try.ntmps85
    go_wp2
    go_ret
    exact ⟨ret_b (by first | rw [signN_yes (by omega)] | rw [signN_no (by omega)]), rfl⟩
  · have dn1 : decide (97 ≤ c) = false := by simp; omega
    have dn2 : decide ((97 : Int) ≤ (c : Int)) = false := by simp; omega
    have dn3 : decide (48 ≤ c) = true := by simp; omega
    have dn4 : decide ((48 : Int) ≤ (c : Int)) = true := by simp; omega
    have dn5 : decide (c ≤ 122) = true := by simp; omega
    have dn6 : decide ((c : Int) ≤ 122) = true := by simp; omega
    have dn7 : decide (c ≤ 57) = true := by simp; omega
    have dn8 : decide ((c : Int) ≤ 57) = true := by simp; omega
    have dn9 : (c == 45) = false := by simp; omega
    have dn10 : ((c : Int) == 45) = false := by simp; omega
    go_enter Try.func85, Try.ntmps85
    go_wp2
    go_ret
    exact ⟨ret_b (by first | rw [signN_yes (by omega)] | rw [signN_no (by omega)]), rfl⟩
  · have dn1 : decide (97 ≤ c) = false := by simp; omega
    have dn2 : decide ((97 : Int) ≤ (c : Int)) = false := by simp; omega
    have dn3 : decide (48 ≤ c) = true := by simp; omega
    have dn4 : decide ((48 : Int) ≤ (c : Int)) = true := by simp; omega
    have dn5 : decide (c ≤ 122) = true := by simp; omega
    have dn6 : decide ((c : Int) ≤ 122) = true := by simp; omega
    have dn7 : decide (c ≤ 57) = false := by simp; omega
    have dn8 : decide ((c : Int) ≤ 57) = false := by simp; omega
    have dn9 : (c == 45) = false := by simp; omega
    have dn10 : ((c : Int) == 45) = false := by simp; omega
    go_enter Try.func85, Try.ntmps85
    go_wp2
    go_ret
    exact ⟨ret_b (by first | rw [signN_yes (by omega)] | rw [signN_no (by omega)]), rfl⟩
  · have dn1 : decide (97 ≤ c) = true := by simp; omega
    have dn2 : decide ((97 : Int) ≤ (c : Int)) = true := by simp; omega
    have dn3 : decide (48 ≤ c) = true := by simp; omega
    have dn4 : decide ((48 : Int) ≤ (c : Int)) = true := by simp; omega
    have dn5 : decide (c ≤ 122) = true := by simp; omega
    have dn6 : decide ((c : Int) ≤ 122) = true := by simp; omega
    have dn7 : decide (c ≤ 57) = false := by simp; omega
    have dn8 : decide ((c : Int) ≤ 57) = false := by simp; omega
    have dn9 : (c == 45) = false := by simp; omega
    have dn10 : ((c : Int) == 45) = false := by simp; omega
    go_enter Try.func85, Try.ntmps85
    go_wp2
    go_ret
    exact ⟨ret_b (by first | rw [signN_yes (by omega)] | rw [signN_no (by omega)]), rfl⟩
  · have dn1 : decide (97 ≤ c) = true := by simp; omega
    have dn2 : decide ((97 : Int) ≤ (c : Int)) = true := by simp; omega
    have dn3 : decide (48 ≤ c) = true := by simp; omega
    have dn4 : decide ((48 : Int) ≤ (c : Int)) = true := by simp; omega
    have dn5 : decide (c ≤ 122) = false := by simp; omega
    have dn6 : decide ((c : Int) ≤ 122) = false := by simp; omega
    have dn7 : decide (c ≤ 57) = false := by simp; omega
    have dn8 : decide ((c : Int) ≤ 57) = false := by simp; omega
    have dn9 : (c == 45) = false := by simp; omega
    have dn10 : ((c : Int) == 45) = false := by simp; omega
    go_enter Try.func85, Try.ntmps85
    go_wp2
    go_ret
    exact ⟨ret_b (by first | rw [signN_yes (by omega)] | rw [signN_no (by omega)]), rfl⟩
theorem may1_any (c : Nat) (h : c < 256) (w : World) :
    Calls Try.prog 84 #[.int .u8 (c : Int)] w fun e w' => e = .returned (.bool (!signN c)) ∧ w' = w := by
  have hs := fun w => sign_any c h w
  obtain ⟨b, hb⟩ : ∃ b, signN c = b := ⟨_, rfl⟩
  simp only [hb] at hs
  rw [hb]
  have HS := Lib.hid hs
  clear hs hb
  go_enter Try.func84, Try.ntmps84
  go_wp2_with fail
  refine (HS.out _).mono ?_
  rintro e w' ⟨rfl, rfl⟩
  go_wp2
  go_ret
  exact ⟨rfl, rfl⟩
set_option maxRecDepth 100000 in
set_option maxHeartbeats 4000000 in
/-- **first, of bytes that are no signs** -/
theorem firstB_any (v : Value) (l : List UInt8) (w : World) (hm : l.length ≤ 1000000) (hv : SB w v l) :
    Calls Try.prog 83 #[v, .func (.func 84) #[] #[]] w fun e w' => ∃ r : Int, e = .returned (.int .i64 r) ∧ decide (r < 0) = ofN signN l ∧ w' = w := by
  obtain ⟨A, c, rfl, hc1, hc2, hcell⟩ := hv.form
  obtain ⟨n, hn⟩ : ∃ n, l.length = n := ⟨_, rfl⟩
  rw [hn] at hc1 hcell hm ⊢
  have HC := Lib.hid hcell
  have HN := Lib.hid hn
  clear hcell hn hv
  obtain ⟨r, hr⟩ : ∃ r, ofN signN l = r := ⟨_, rfl⟩
  have HR := Lib.hid hr
  rw [hr]
  clear hr
  go_enter Try.func83, Try.ntmps83
  go_wp2
  go_loop [9, 5, 6] (fun i x y => ∃ k : Nat, (i = .int .i64 (k : Int) ∧ k ≤ n) ∧ ofN signN (l.take k) = true) (fun i _ _ => n - (intOf i).toNat)
  case atStart => exact ⟨0, ⟨rfl, Nat.zero_le _⟩, rfl⟩
  case round =>
    obtain ⟨k, ⟨rfl, hk⟩, hl⟩ := hrel
    have HL := Lib.hid hl
    clear hl
    by_cases hlt : k < n
    · obtain ⟨g, o, rfl, hcc⟩ := HC.out (by omega)
      have c0 := hcc k hlt
      have hsn := ofN_snoc signN l k (by rw [HN.out]; exact hlt)
      have hno := ofN_not signN l k (by rw [HN.out]; exact hlt)
      rw [HL.out, Bool.true_and] at hsn
      have hsg := fun w => may1_any (gb l k) (by have := gb_lt l k; omega) w
      obtain ⟨x, hx⟩ : ∃ x, gb l k = x := ⟨_, rfl⟩
      rw [hx] at c0 hsn hno
      simp only [hx] at hsg
      obtain ⟨b, hb⟩ : ∃ b, signN x = b := ⟨_, rfl⟩
      simp only [hb] at hsg
      rw [hb] at hsn hno
      have HSG := Lib.hid hsg
      have HSN := Lib.hid hsn
      have HNO := Lib.hid hno
      have d0 : decide (k < n) = true := decide_eq_true hlt
      have k0 : (0 : Int) ≤ (k : Int) := by omega
      have k1 : (k : Int) < (n : Int) := by omega
      clear hcc hsn hno hx hb hsg
      cases b with
      | true =>
        go_wp2_with fail
        refine (HSG.out _).mono ?_
        rintro e w' ⟨rfl, rfl⟩
        go_wp2
        go_round
        case rel => exact ⟨k + 1, ⟨by go_num, by omega⟩, HSN.out⟩
        case measure => simp [intOf]; omega
      | false =>
        have hf : r = false := by rw [← HR.out]; exact HNO.out rfl
        subst hf
        go_wp2_with fail
        refine (HSG.out _).mono ?_
        rintro e w' ⟨rfl, rfl⟩
        go_wp2
        go_ret
        exact ⟨_, rfl, decide_eq_false (by omega), rfl⟩
    · have d0 : decide (k < n) = false := decide_eq_false hlt
      have hf : r = true := by rw [← HR.out]; exact ofN_all signN l k HL.out (by rw [HN.out]; omega)
      subst hf
      go_wp2
      go_ret
      exact ⟨_, rfl, by decide, rfl⟩
/-- whether a hold may be -/
def mayB (h : Ru) : Bool := decide (1 ≤ h.1.size) && decide (h.1.size ≤ 30) && (decide (h.2.size = 0) || mailB (bl h.2)) && ofN signN (bl h.1)
theorem isEmpty_zero {s : ByteArray} (h : s.size = 0) : s.toList.isEmpty = true ∧ (s.toList == []) = true := by
  have e : bl s = [] := List.length_eq_zero_iff.1 (by rw [bl_len]; exact h)
  rw [toList_bl, e]; exact ⟨rfl, rfl⟩
set_option maxRecDepth 100000 in
set_option maxHeartbeats 4000000 in
theorem may_sign (nm who : ByteArray) (h1 : 1 ≤ nm.size) (h2 : nm.size ≤ 30) (w w1 W : World) (hb : Below w.heap.size w W) :
    ∃ c W1, (convert 9 80 (.string nm)).run Try.prog W = .ok (.slice (some ⟨W.heap.size, 0, none⟩) nm.size c) W1 ∧ SB W1 (.slice (some ⟨W.heap.size, 0, none⟩) nm.size c) (bl nm) ∧ Below w.heap.size w W1 := by
  obtain ⟨c, W1, hconv, hfb, hc1, hc2, hB⟩ := conv_bytes nm (by unfold maxLen; omega) W
  exact ⟨c, W1, hconv, hfb.sb (bl_len _) (fun j hj => rfl) hc1 hc2, onB hb hB⟩
set_option maxRecDepth 100000 in
set_option maxHeartbeats 8000000 in
/-- **may** -/
theorem may_any (nm who : ByteArray) (hw : who.size ≤ maxLen) (w : World) :
    Calls Try.prog 67 #[.agg #[.string nm, .string who]] w fun e w' => e = .returned (.bool (mayB (nm, who))) ∧ Below w.heap.size w w' := by
  have b0 : Below w.heap.size w (w.alloc (.cells #[.string nm, .string who] 47)) := (Below.refl _ _).alloc (Nat.le_refl _) _
  have r0 : Row (w.alloc (.cells #[.string nm, .string who] 47)) w.heap.size 47 [.string nm, .string who] := Row.new w _ _
  have B0 := Lib.hid b0
  have R0 := Lib.hid r0
  obtain ⟨r, hr⟩ : ∃ r, mayB (nm, who) = r := ⟨_, rfl⟩
  have HR : Hid ((decide (1 ≤ nm.size) && decide (nm.size ≤ 30) && (decide (who.size = 0) || mailB (bl who)) && ofN signN (bl nm)) = r) := hr
  rw [hr]
  clear b0 r0 hr
  by_cases h1 : 1 ≤ nm.size
  · obtain ⟨em1, em2⟩ := empty_len h1
    by_cases h2 : nm.size ≤ 30
    · have d1 : decide (30 < nm.size) = false := decide_eq_false (by omega)
      have d2 : decide ((30 : Int) < (nm.size : Int)) = false := decide_eq_false (by omega)
      rw [decide_eq_true h1, decide_eq_true h2, Bool.true_and, Bool.true_and] at HR
      by_cases h3 : 1 ≤ who.size
      · obtain ⟨em3, em4⟩ := empty_len h3
        have em5 : (who.toList != []) = true := by rw [bne, em4]; rfl
        rw [decide_eq_false (by omega), Bool.false_or] at HR
        have hmb := fun w => mailbox_any who hw w
        obtain ⟨mb, hmbv⟩ : ∃ mb, mailB (bl who) = mb := ⟨_, rfl⟩
        simp only [hmbv] at hmb
        rw [hmbv] at HR
        have HM := Lib.hid hmb
        clear hmb hmbv
        cases mb with
        | false =>
          have hf : r = false := HR.out.symm
          subst hf
          clear h1 h2 h3
          go_enter Try.func67, Try.ntmps67
          go_wp2_with fail
          refine (HM.out _).mono ?_
          rintro e w1 ⟨rfl, hb1⟩
          go_wp2
          go_ret
          exact ⟨rfl, onB B0.out hb1⟩
        | true =>
          rw [Bool.true_and] at HR
          go_enter Try.func67, Try.ntmps67
          go_wp2_with fail
          refine (HM.out _).mono ?_
          rintro e w1 ⟨rfl, hb1⟩
          have r1 := R0.out.belowS hb1
          have f0 := r1.cell0
          obtain ⟨c, W1, hconv, hsb, hB1⟩ := may_sign nm who h1 h2 w w w1 (onB B0.out hb1)
          have HS := Lib.hid (firstB_any _ (bl nm) W1 (by rw [bl_len]; omega) hsb)
          have HB1 := Lib.hid hB1
          clear r1 hsb hB1 hb1 h1 h2 h3
          go_wp2_with fail
          refine HS.out.mono ?_
          rintro e w' ⟨q, rfl, hq, rfl⟩
          rw [HR.out] at hq
          go_wp2
          go_ret
          exact ⟨rfl, HB1.out⟩
      · obtain ⟨em3, em4⟩ := isEmpty_zero (s := who) (by omega)
        have em5 : (who.toList != []) = false := by rw [bne, em4]; rfl
        rw [decide_eq_true (by omega : who.size = 0), Bool.true_or, Bool.true_and] at HR
        obtain ⟨c, W1, hconv, hsb, hB1⟩ := may_sign nm who h1 h2 w w (w.alloc (.cells #[.string nm, .string who] 47)) B0.out
        have HS := Lib.hid (firstB_any _ (bl nm) W1 (by rw [bl_len]; omega) hsb)
        have HB1 := Lib.hid hB1
        have hsz : (w.alloc (.cells #[.string nm, .string who] 47)).heap.size = w.heap.size + 1 := alloc_size _ _
        rw [hsz] at hconv HS
        clear hsb hB1 h1 h2 h3 hsz
        go_enter Try.func67, Try.ntmps67
        go_wp2_with fail
        refine HS.out.mono ?_
        rintro e w' ⟨q, rfl, hq, rfl⟩
        rw [HR.out] at hq
        go_wp2
        go_ret
        exact ⟨rfl, HB1.out⟩
    · have d1 : decide (30 < nm.size) = true := decide_eq_true (by omega)
      have d2 : decide ((30 : Int) < (nm.size : Int)) = true := decide_eq_true (by omega)
      rw [decide_eq_false h2, Bool.and_false, Bool.false_and, Bool.false_and] at HR
      have hf : r = false := HR.out.symm
      subst hf
      go_enter Try.func67, Try.ntmps67
      go_wp2
      go_ret
      exact ⟨rfl, B0.out⟩
  · obtain ⟨em1, em2⟩ := isEmpty_zero (s := nm) (by omega)
    rw [decide_eq_false h1] at HR
    have hf : r = false := HR.out.symm
    subst hf
    go_enter Try.func67, Try.ntmps67
    go_wp2
    go_ret
    exact ⟨rfl, B0.out⟩
end Go.Proofs.Ytofdfcngmkkfdaa

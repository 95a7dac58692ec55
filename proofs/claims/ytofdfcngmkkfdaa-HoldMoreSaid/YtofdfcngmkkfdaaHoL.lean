/- awake and few of law14; HoldPlaces. -/
import Derived.RangeFuncNested
import Derived.RangeFuncBound
import Derived.RangeFuncCalls
import Derived.RangeFuncLeaves
import Derived.Shelf.Abstract
import Derived.Shelf.RegionOpen
import Derived.WalkKit
import Derived.OwnWalkIn
import Derived.TacticsInMore
import Derived.LoopNIn
import Derived.LoopIn
import Derived.Outline
import Derived.Lib.Hide
import Derived.Lib.SliceRun
import Derived.IntWalk
import Derived.WalkLawsBesides
import Derived.WalkSpells
import Derived.Laws.BitsAllLaws
import Derived.Lib.ConvBytes
import Derived.Maps.AppendAt
import Derived.Lib.AppendStr
import Derived.Lib.SlBytesConst
import Derived.Laws.AppendOwnNone
import Derived.Laws.OwnMore
import Derived.Laws.BytesArg
import Derived.Deep.RegionHeld3
import Derived.BigQuiet
import Derived.Deep.RegionLaw
import Derived.Deep.QuietTactic
import Derived.Lib.OthersKept
import Derived.Test.YtofdfcngmkkfdaaProg
import Derived.Deep.DeepFit
import Derived.Test.YtofdfcngmkkfdaaHoK
set_option linter.unusedVariables false
set_option linter.unusedSimpArgs false
namespace Go.Proofs.Ytofdfcngmkkfdaa
open Go Go.RowKit Go.Shelf

theorem TV.nil (W : World) : TV W (.slice none 0 0) [] := ⟨none, 0, rfl, by simp, fun i h => by simp at h⟩
theorem PV.form1 {W : World} {u : Value} {x : Ru} (h : PV W u (ruV [x])) : ∃ A c, u = .slice A 1 c := by
  obtain ⟨A, c, rfl, -⟩ := h
  exact ⟨A, c, rfl⟩
set_option maxRecDepth 100000 in
set_option maxHeartbeats 2000000 in
theorem awake14_any (w : World) : Calls Try.prog 38 #[] w fun e w' => e = .returned (.bool true) ∧ Below w.heap.size w w' := by
  have h1 := place_any (.slice none 0 0) [] ⟨#[97]⟩ ⟨#[]⟩ w (by simp) (by unfold maxLen; decide) (PV.nil w)
  have e1 : plE [] (⟨#[97]⟩, ⟨#[]⟩) = 0 := by decide +kernel
  have e2 : plL [] (⟨#[97]⟩, ⟨#[]⟩) = [(⟨#[97]⟩, ⟨#[]⟩)] := by unfold plL; rw [e1]; rfl
  rw [e1, e2] at h1
  have h2 : ∀ u W, PV W u (ruV [(⟨#[97]⟩, ⟨#[]⟩)]) → Calls Try.prog 40 #[u, .agg #[.string ⟨#[97]⟩, .string ⟨#[]⟩]] W fun e w' => ∃ v, e = .returned (.tuple #[v, .int .i64 140]) ∧ Below W.heap.size W w' := fun u W h => by
    have := place_any u [(⟨#[97]⟩, ⟨#[]⟩)] ⟨#[97]⟩ ⟨#[]⟩ W (by simp) (by unfold maxLen; decide) h
    rw [show plE [(⟨#[97]⟩, ⟨#[]⟩)] (⟨#[97]⟩, ⟨#[]⟩) = 140 by decide +kernel] at this
    exact this.mono fun e w' ⟨v, a, _, b⟩ => ⟨v, a, b⟩
  have h3 : ∀ u W, PV W u (ruV [(⟨#[97]⟩, ⟨#[]⟩)]) → Calls Try.prog 43 #[u, .agg #[.string ⟨#[]⟩, .slice none 0 0, .int .i64 0]] W fun e w' => e = .returned (.bool true) ∧ Below W.heap.size W w' := fun u W h => by
    have := covers_any u [(⟨#[97]⟩, ⟨#[]⟩)] ⟨#[]⟩ [] (.slice none 0 0) 0 (by unfold maxLen; decide) (by simp) (by intro x hx; simp at hx; subst hx; exact ⟨by unfold maxLen; decide, by unfold maxLen; decide⟩) W h (TV.nil W)
    rw [show ([(⟨#[97]⟩, ⟨#[]⟩)] : List Ru).any (covB ⟨#[]⟩ []) = true by decide +kernel] at this
    exact this
  have H1 := Lib.hid h1
  have H2 := Lib.hid h2
  have H3 := Lib.hid h3
  clear h1 e1 e2 h2 h3
  go_enter Try.func38, Try.ntmps38
  go_wp2_with fail
  refine H1.out.mono ?_
  rintro e w1 ⟨u, rfl, hown, hb1⟩
  have hp := hown.reads
  obtain ⟨A, c, rfl⟩ := hp.form1
  have HP := Lib.hid hp
  have B1 := Lib.hid hb1
  clear hp hown hb1 H1
  go_wp2_with fail
  refine (H2.out _ _ HP.out).mono ?_
  rintro e w2 ⟨v, rfl, hb2⟩
  have HP2 := Lib.hid (HP.out.below hb2)
  have B2 := Lib.hid (onB B1.out hb2)
  clear hb2 HP B1 H2
  go_wp2_with fail
  refine (H3.out _ _ HP2.out).mono ?_
  rintro e w3 ⟨rfl, hb3⟩
  have B3 := Lib.hid (onB B2.out hb3)
  clear hb3
  go_wp2
  go_ret
  exact ⟨rfl, B3.out⟩
def few14B (n t : Nat) : Bool := decide (n ≤ 101) && decide (t ≤ 20)
set_option maxRecDepth 100000 in
set_option maxHeartbeats 2000000 in
theorem few14_any (A A'' : Option Addr) (n t c c'' : Nat) (f : ByteArray) (a : Int) (w : World) :
    Calls Try.prog 39 #[.slice A n c, .agg #[.string f, .slice A'' t c'', .int .i64 a]] w fun e w' => e = .returned (.bool (few14B n t)) ∧ Below w.heap.size w w' := by
  have b0 : Below w.heap.size w (w.alloc (.cells #[.string f, .slice A'' t c'', .int .i64 a] 33)) := (Below.refl _ _).alloc (Nat.le_refl _) _
  have B0 := Lib.hid b0
  clear b0
  by_cases h1 : n ≤ 101
  · have d1 : decide (n ≤ 101) = true := decide_eq_true h1
    have d2 : decide ((n : Int) ≤ 101) = true := decide_eq_true (by omega)
    by_cases h3 : t ≤ 20
    · have d5 : decide (t ≤ 20) = true := decide_eq_true h3
      have d6 : decide ((t : Int) ≤ 20) = true := decide_eq_true (by omega)
      have e : few14B n t = true := by unfold few14B; rw [d1, d5]; rfl
      rw [e]
      clear e
      go_enter Try.func39, Try.ntmps39
      go_wp2
      go_ret
      exact ⟨rfl, B0.out⟩
    · have d5 : decide (t ≤ 20) = false := decide_eq_false h3
      have d6 : decide ((t : Int) ≤ 20) = false := decide_eq_false (by omega)
      have e : few14B n t = false := by unfold few14B; rw [d1, d5]; rfl
      rw [e]
      clear e
      go_enter Try.func39, Try.ntmps39
      go_wp2
      go_ret
      exact ⟨rfl, B0.out⟩
  · have d1 : decide (n ≤ 101) = false := decide_eq_false h1
    have d2 : decide ((n : Int) ≤ 101) = false := decide_eq_false (by omega)
    have e : few14B n t = false := by unfold few14B; rw [d1]; rfl
    rw [e]
    clear e
    go_enter Try.func39, Try.ntmps39
    go_wp2
    go_ret
    exact ⟨rfl, B0.out⟩
set_option maxRecDepth 100000 in
set_option maxHeartbeats 4000000 in
/-- **HoldPlaces** -/
theorem holdPlaces_walk (v : Value) (hs : List Ru) (hv' : Value) (x : Ru) (w : World) (hv : PV w v (ruV hs) ∧ ∀ c ∈ hs, c.1.size ≤ maxLen ∧ c.2.size ≤ maxLen) (hx : hv' = .agg #[.string x.1, .string x.2] ∧ x.1.size ≤ maxLen ∧ x.2.size ≤ maxLen) :
    Calls Try.prog 13 #[v, hv'] w fun e w' => e = .returned (.bool true) ∧ Below w.heap.size w w' := by
  obtain ⟨hv, hsz⟩ := hv
  obtain ⟨nm, who⟩ := x
  obtain ⟨rfl, hx1, hx2⟩ := hx
  dsimp only at hx1 hx2
  have hv0 := hv
  obtain ⟨A, c, rfl, hc1, -⟩ := hv
  rw [ruV_len] at hv0 hc1 ⊢
  obtain ⟨n, hn⟩ : ∃ n, hs.length = n := ⟨_, rfl⟩
  rw [hn] at hv0 hc1 ⊢
  obtain ⟨B, hB⟩ : ∃ B, w.heap.size = B := ⟨_, rfl⟩
  have m0 : Mine B w (w.alloc (.cells #[.string nm, .string who] 47)) := by rw [← hB]; exact (Mine.refl w).alloc _
  have r0 : Row (w.alloc (.cells #[.string nm, .string who] 47)) B 47 [.string nm, .string who] := by rw [← hB]; exact Row.new w _ _
  have hgv : ∀ wr, Mine B w wr → PV wr (.slice A n c) (ruV hs) := fun wr h => hv0.below (hB ▸ h.bel)
  have hfw := fun w => few14_any A none n 0 c 0 ⟨#[]⟩ 0 w
  obtain ⟨b, hb⟩ : ∃ b, few14B n 0 = b := ⟨_, rfl⟩
  simp only [hb] at hfw
  have HFW := Lib.hid hfw
  have HB := Lib.hid hb
  have M0 := Lib.hid m0
  have R0 := Lib.hid r0
  have HV := Lib.hid hgv
  have HN := Lib.hid hn
  clear hfw hb m0 r0 hgv hn hv0
  go_enter Try.func13, Try.ntmps13
  go_wp2_with fail
  refine (awake14_any _).mono ?_
  rintro e w1 ⟨rfl, hb1⟩
  have M1 := Lib.hid (M0.out.call hb1)
  have R1 := Lib.hid (R0.out.belowS hb1)
  clear hb1 M0 R0
  go_wp2_with fail
  refine (HFW.out _).mono ?_
  rintro e w2 ⟨rfl, hb2⟩
  have M2 := Lib.hid (M1.out.call hb2)
  have R2 := Lib.hid (R1.out.belowS hb2)
  clear hb2 M1 R1
  cases b with
  | false =>
    go_wp2
    go_ret
    exact ⟨rfl, by first | exact M2.out.bel | (rw [hB]; exact M2.out.bel)⟩
  | true =>
    have hl : hs.length ≤ 1000 := by
      have := HB.out
      unfold few14B at this
      simp at this
      have h2 := HN.out
      omega
    have hp := fun W h => place_any (.slice A n c) hs nm who W hl hx2 (HV.out W h)
    have hrp := fun W h => rplace_any (.slice A n c) hs nm who W hl hx1 hx2 (HV.out W h)
    have hll : (plL hs (nm, who)).length ≤ 1001 := by unfold plL; split <;> simp; omega
    have c0 := R2.out.cell0
    have c1 := R2.out.cell1
    obtain ⟨z, hz⟩ : ∃ z, plE hs (nm, who) = z := ⟨_, rfl⟩
    obtain ⟨L, hL⟩ : ∃ L, plL hs (nm, who) = L := ⟨_, rfl⟩
    simp only [hz, hL] at hp hrp
    rw [hL] at hll
    have HP := Lib.hid hp
    have HRP := Lib.hid hrp
    have HLL := Lib.hid hll
    clear hp hrp hz hL hll hl HV HB HN
    go_wp2_with fail
    refine (HP.out _ M2.out).mono ?_
    rintro e w3 ⟨u1, rfl, hown1, hb3⟩
    have M3 := Lib.hid (M2.out.call hb3)
    have R3 := Lib.hid (R2.out.belowS hb3)
    have P1 := Lib.hid hown1.reads
    clear hown1 hb3 c0 c1
    have c0 := R3.out.cell0
    have c1 := R3.out.cell1
    go_wp2_with fail
    refine (HRP.out _ M3.out).mono ?_
    rintro e w4 ⟨u2, rfl, hown2, hb4⟩
    have M4 := Lib.hid (M3.out.call hb4)
    have P2 := Lib.hid (P1.out.below hb4)
    have P3 := Lib.hid hown2.reads
    clear hown2 hb4 c0 c1
    have dz : (z == z) = true := by simp
    go_wp2_with fail
    refine (rsame_any _ _ L _ (by have := HLL.out; omega) P2.out P3.out).mono ?_
    rintro e w5 ⟨rfl, hb5⟩
    have M5 := Lib.hid (M4.out.call hb5)
    clear hb5
    go_wp2
    go_ret
    exact ⟨rfl, by first | exact M5.out.bel | (rw [hB]; exact M5.out.bel)⟩
end Go.Proofs.Ytofdfcngmkkfdaa

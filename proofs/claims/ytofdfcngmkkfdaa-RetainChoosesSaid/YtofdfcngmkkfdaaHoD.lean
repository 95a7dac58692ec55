/- hold: Covers$1, Covers. -/
import Derived.RangeFuncNested
import Derived.RangeFuncBound
import Derived.RangeFuncCalls
import Derived.RangeFuncLeaves
import Derived.Shelf.Abstract
import Derived.Shelf.RegionOpen
import Derived.WalkKit
import Derived.OwnWalkIn
import Derived.TacticsInMore
import Derived.LoopNIn
import Derived.LoopIn
import Derived.Outline
import Derived.Lib.Hide
import Derived.Lib.SliceRun
import Derived.IntWalk
import Derived.WalkLawsBesides
import Derived.WalkSpells
import Derived.Laws.BitsAllLaws
import Derived.Lib.ConvBytes
import Derived.Maps.AppendAt
import Derived.Lib.AppendStr
import Derived.Lib.SlBytesConst
import Derived.Laws.AppendOwnNone
import Derived.Laws.OwnMore
import Derived.Laws.BytesArg
import Derived.Deep.RegionHeld3
import Derived.BigQuiet
import Derived.Deep.RegionLaw
import Derived.Deep.QuietTactic
import Derived.Lib.OthersKept
import Derived.Test.YtofdfcngmkkfdaaProg
import Derived.Deep.DeepFit
import Derived.Test.YtofdfcngmkkfdaaHoC
set_option linter.unusedVariables false
set_option linter.unusedSimpArgs false
namespace Go.Proofs.Ytofdfcngmkkfdaa
open Go Go.RowKit Go.Shelf

theorem isEmpty_eq (l : List UInt8) : l.isEmpty = (l == []) := by cases l <;> rfl
theorem TV.below {W W' : World} {v : Value} {ss : List ByteArray} (h : TV W v ss) (hb : Below W.heap.size W W') : TV W' v ss := SL.below h hb
/-- whether a hold keeps an envelope -/
def covB (fr : ByteArray) (to : List ByteArray) (h : Ru) : Bool := ((fo h.2).toList == []) || ((fo fr).toList == (fo h.2).toList) || to.any fun s => (fo s).toList == (fo h.2).toList
set_option maxRecDepth 100000 in
set_option maxHeartbeats 4000000 in
theorem cov1_any (fr : ByteArray) (to : List ByteArray) (tv : Value) (at_ : Int) (nm who : ByteArray) (hfr : fr.size ≤ maxLen) (hto : ∀ s ∈ to, s.size ≤ maxLen) (hwho : who.size ≤ maxLen) (E : Nat) (w : World)
    (hE : Row w E 33 [.string fr, tv, .int .i64 at_]) (hT : TV w tv to) :
    Calls Try.prog 72 #[.agg #[.string nm, .string who], .pointer (some ⟨E, 0, none⟩)] w fun e w' => e = .returned (.bool (covB fr to (nm, who))) ∧ Below w.heap.size w w' := by
  have b0 : Below w.heap.size w (w.alloc (.cells #[.string nm, .string who] 47)) := (Below.refl _ _).alloc (Nat.le_refl _) _
  have hf := fun w => fo_any who hwho w
  obtain ⟨f, hfo⟩ : ∃ f, fo who = f := ⟨_, rfl⟩
  obtain ⟨r, hr⟩ : ∃ r, covB fr to (nm, who) = r := ⟨_, rfl⟩
  have hr2 : ((f.toList == []) || ((fo fr).toList == f.toList) || to.any fun s => (fo s).toList == f.toList) = r := by rw [← hfo]; exact hr
  simp only [hfo] at hf
  rw [hr]
  have HF := Lib.hid hf
  have B0 := Lib.hid b0
  have HE := Lib.hid hE
  have HT := Lib.hid hT
  have hsm := fun B w hB => same_any fr f hfr B w hB
  have hst := fun (B : Nat) v (w : World) hv (hB : Boxed w B 9 (.string f)) => firstS_any 73 (.pointer (some ⟨B, 0, none⟩)) (fun s => (fo s).toList == f.toList) (fun _ _ => rfl) v to w hv (fun s hs w' hb hs' => same_any s f (hto s hs) B w' (boxed_below hB hb))
  have hge := fstG_ge (fun s : ByteArray => (fo s).toList == f.toList) to 0
  obtain ⟨b1, hb1⟩ : ∃ b, (f.toList == []) = b := ⟨_, rfl⟩
  obtain ⟨b2, hb2⟩ : ∃ b, ((fo fr).toList == f.toList) = b := ⟨_, rfl⟩
  obtain ⟨b3, hb3⟩ : ∃ b, (to.any fun s => (fo s).toList == f.toList) = b := ⟨_, rfl⟩
  obtain ⟨q, hq⟩ : ∃ q, fstG (fun s : ByteArray => (fo s).toList == f.toList) to 0 = q := ⟨_, rfl⟩
  simp only [hb2] at hsm
  simp only [hq] at hst
  rw [hq, hb3] at hge
  rw [hb1, hb2, hb3] at hr2
  have HSM := Lib.hid hsm
  have HST := Lib.hid hst
  have hb1' : f.toList.isEmpty = b1 := by rw [isEmpty_eq]; exact hb1
  clear hf hfo hr hE hT b0 hsm hst hb2 hb3 hq
  go_enter Try.func72, Try.ntmps72
  go_wp2_with fail
  refine (HF.out _).mono ?_
  rintro e w1 ⟨rfl, hbw⟩
  have hb1w := onB B0.out hbw
  have hE1 := (HE.out.belowS hb1w).alloc (.cells #[.string f] 9)
  have hbx := Boxed.new w1 9 (.string f)
  have hT1 := HT.out.below (hb1w.alloc hb1w.size (.cells #[.string f] 9))
  have hbA := hb1w.alloc hb1w.size (.cells #[.string f] 9)
  have c0 := hE1.cell 0
  have cB := hbx.cell
  dsimp only [List.getElem?_cons_zero] at c0
  have HE1 := Lib.hid hE1
  have HBX := Lib.hid hbx
  have HT1 := Lib.hid hT1
  have HBA := Lib.hid hbA
  clear hE1 hbx hT1 hbA hb1w
  cases b1 with
  | true =>
    simp only [Bool.true_or] at hr2
    subst hr2
    go_wp2
    go_ret
    exact ⟨rfl, HBA.out⟩
  | false =>
    rw [Bool.false_or] at hr2
    go_wp2_with fail
    refine (HSM.out w1.heap.size _ HBX.out).mono ?_
    rintro e w2 ⟨rfl, hbw2⟩
    cases b2 with
    | true =>
      simp only [Bool.true_or] at hr2
      subst hr2
      go_wp2
      go_ret
      exact ⟨rfl, onB HBA.out hbw2⟩
    | false =>
      rw [Bool.false_or] at hr2
      subst hr2
      have c1 := (HE1.out.belowS hbw2).cell 1
      dsimp only [List.getElem?_cons_succ, List.getElem?_cons_zero] at c1
      have hcall := HST.out w1.heap.size tv w2 (HT1.out.below hbw2) (boxed_below HBX.out hbw2)
      have HCALL := Lib.hid hcall
      have HB2 := Lib.hid hbw2
      clear hcall hbw2
      go_wp2_with fail
      refine HCALL.out.mono ?_
      rintro e w3 ⟨rfl, hbw3⟩
      go_wp2
      go_ret
      exact ⟨rfl, onB (onB HBA.out HB2.out) hbw3⟩
set_option maxRecDepth 100000 in
set_option maxHeartbeats 4000000 in
/-- **Covers** -/
theorem covers_any (v : Value) (hs : List Ru) (fr : ByteArray) (to : List ByteArray) (tv : Value) (at_ : Int) (hfr : fr.size ≤ maxLen) (hto : ∀ s ∈ to, s.size ≤ maxLen) (hhs : ∀ h ∈ hs, h.1.size ≤ maxLen ∧ h.2.size ≤ maxLen) (w : World)
    (hv : PV w v (ruV hs)) (hT : TV w tv to) :
    Calls Try.prog 43 #[v, .agg #[.string fr, tv, .int .i64 at_]] w fun e w' => e = .returned (.bool (hs.any (covB fr to))) ∧ Below w.heap.size w w' := by
  have b0 : Below w.heap.size w (w.alloc (.cells #[.string fr, tv, .int .i64 at_] 33)) := (Below.refl _ _).alloc (Nat.le_refl _) _
  have hx : Row (w.alloc (.cells #[.string fr, tv, .int .i64 at_] 33)) w.heap.size 33 [.string fr, tv, .int .i64 at_] := Row.new w _ _
  have h := firstH_any 72 (.pointer (some ⟨w.heap.size, 0, none⟩)) (covB fr to) (fun _ _ => rfl) v hs _ (hv.below b0)
    (fun x hx' w' hb hs' => cov1_any fr to tv at_ x.1 x.2 hfr hto (hhs x hx').2 w.heap.size w' (hx.belowS hb) ((hT.below b0).below hb))
  have hge := fstG_ge (covB fr to) hs 0
  obtain ⟨q, hq⟩ : ∃ q, fstG (covB fr to) hs 0 = q := ⟨_, rfl⟩
  obtain ⟨r, hr⟩ : ∃ r, hs.any (covB fr to) = r := ⟨_, rfl⟩
  rw [hq] at h hge
  rw [hr] at hge ⊢
  have H := Lib.hid h
  have B0 := Lib.hid b0
  have htv : tv.oneCell' = true := by obtain ⟨A, c, rfl, -⟩ := hT; rfl
  obtain ⟨A, c, rfl, hc1, -⟩ := hv
  obtain ⟨At, ct, rfl, hct, -⟩ := hT
  obtain ⟨mt, hmt⟩ : ∃ m, (List.map (fun s : ByteArray => Value.string s) to).length = m := ⟨_, rfl⟩
  rw [hmt] at H B0 ⊢
  clear h b0 hx hr hq hmt htv
  go_enter Try.func43, Try.ntmps43
  go_wp2_with fail
  refine H.out.mono ?_
  rintro e w2 ⟨rfl, hb2⟩
  go_wp2
  go_ret
  exact ⟨by first | rfl | exact ret_b hge, onB B0.out hb2⟩
end Go.Proofs.Ytofdfcngmkkfdaa

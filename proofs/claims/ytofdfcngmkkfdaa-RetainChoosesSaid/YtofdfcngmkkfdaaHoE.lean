/- the reference's Covers. -/
import Derived.RangeFuncNested
import Derived.RangeFuncBound
import Derived.RangeFuncCalls
import Derived.RangeFuncLeaves
import Derived.Shelf.Abstract
import Derived.Shelf.RegionOpen
import Derived.WalkKit
import Derived.OwnWalkIn
import Derived.TacticsInMore
import Derived.LoopNIn
import Derived.LoopIn
import Derived.Outline
import Derived.Lib.Hide
import Derived.Lib.SliceRun
import Derived.IntWalk
import Derived.WalkLawsBesides
import Derived.WalkSpells
import Derived.Laws.BitsAllLaws
import Derived.Lib.ConvBytes
import Derived.Maps.AppendAt
import Derived.Lib.AppendStr
import Derived.Lib.SlBytesConst
import Derived.Laws.AppendOwnNone
import Derived.Laws.OwnMore
import Derived.Laws.BytesArg
import Derived.Deep.RegionHeld3
import Derived.BigQuiet
import Derived.Deep.RegionLaw
import Derived.Deep.QuietTactic
import Derived.Lib.OthersKept
import Derived.Test.YtofdfcngmkkfdaaProg
import Derived.Deep.DeepFit
import Derived.Test.YtofdfcngmkkfdaaHoD
set_option linter.unusedVariables false
set_option linter.unusedSimpArgs false
namespace Go.Proofs.Ytofdfcngmkkfdaa
open Go Go.RowKit Go.Shelf

theorem any_step {α : Type} (p : α → Bool) (l : List α) (k : Nat) (h : k < l.length) : (l.drop k).any p = (p l[k] || (l.drop (k + 1)).any p) := by
  rw [List.drop_eq_getElem_cons h]; rfl
theorem any_end {α : Type} (p : α → Bool) (l : List α) (k : Nat) (h : l.length ≤ k) : (l.drop k).any p = false := by
  rw [List.drop_eq_nil_of_le h]; rfl
theorem fo_size (s : ByteArray) : (fo s).size = s.size := by
  have : (fo s).size = (foldL (bl s)).length := by rw [← bl_len]; exact congrArg List.length (bl_mk _)
  rw [this]
  by_cases h : lastB (bl s) 64 < 0
  · unfold foldL; rw [if_pos h, bl_len]
  · obtain ⟨n, hn⟩ : ∃ n : Nat, lastB (bl s) 64 = n := ⟨(lastB (bl s) 64).toNat, by omega⟩
    have hb := lastB_bound (bl s) 64
    have hl := bl_len s
    by_cases h0 : n < (bl s).length
    · rw [(gb_foldL (bl s) n hn h0).2.1, bl_len]
    · exfalso; omega
theorem fo_empty (s : ByteArray) : ((fo s).toList == []) = (s.toList == []) := by
  have h := fo_size s
  by_cases h0 : s.size = 0
  · rw [(isEmpty_zero h0).2, (isEmpty_zero (h.trans h0)).2]
  · rw [(empty_len (s := s) (by omega)).2, (empty_len (s := fo s) (by omega)).2]
set_option maxRecDepth 100000 in
set_option maxHeartbeats 8000000 in
theorem rcovers_any (v : Value) (hs : List Ru) (fr : ByteArray) (to : List ByteArray) (tv : Value) (at_ : Int) (hfr : fr.size ≤ maxLen) (hto : ∀ s ∈ to, s.size ≤ maxLen) (hhs : ∀ h ∈ hs, h.1.size ≤ maxLen ∧ h.2.size ≤ maxLen) (w : World)
    (hv : PV w v (ruV hs)) (hT : TV w tv to) :
    Calls Try.prog 44 #[v, .agg #[.string fr, tv, .int .i64 at_]] w fun e w' => e = .returned (.bool (hs.any (covB fr to))) ∧ Below w.heap.size w w' := by
  have hv0 := hv
  have hT0 := hT
  obtain ⟨A, c, rfl, hc1, -⟩ := hv
  obtain ⟨At, ct, rfl, hct, -⟩ := hT
  rw [ruV_len] at hv0 hc1 ⊢
  rw [List.length_map] at hT0 hct ⊢
  obtain ⟨n, hn⟩ : ∃ n, hs.length = n := ⟨_, rfl⟩
  obtain ⟨m, hm⟩ : ∃ m, to.length = m := ⟨_, rfl⟩
  rw [hn] at hv0 hc1 ⊢
  rw [hm] at hT0 hct ⊢
  obtain ⟨E, hE⟩ : ∃ E, w.heap.size = E := ⟨_, rfl⟩
  have m0 : Mine E w (w.alloc (.cells #[.string fr, .slice At m ct, .int .i64 at_] 33)) := by rw [← hE]; exact (Mine.refl w).alloc _
  have x0 : Row (w.alloc (.cells #[.string fr, .slice At m ct, .int .i64 at_] 33)) E 33 [.string fr, .slice At m ct, .int .i64 at_] := by rw [← hE]; exact Row.new w _ _
  have hgv : ∀ wr, Mine E w wr → PV wr (.slice A n c) (ruV hs) := fun wr h => hv0.below (hE ▸ h.bel)
  have hgt : ∀ wr, Mine E w wr → TV wr (.slice At m ct) to := fun wr h => hT0.below (hE ▸ h.bel)
  obtain ⟨r, hr⟩ : ∃ r, hs.any (covB fr to) = r := ⟨_, rfl⟩
  have HR : Hid ((hs.drop 0).any (covB fr to) = r) := hr
  rw [hr]
  have HN := Lib.hid hn
  have HM := Lib.hid hm
  have HV := Lib.hid hgv
  have HT := Lib.hid hgt
  have HHS := Lib.hid hhs
  have HTO := Lib.hid hto
  have HF := Lib.hid (fun w => rfo_any fr hfr w)
  have M0 := Lib.hid m0
  have X0 := Lib.hid x0
  clear hv0 hT0 hn hm hgv hgt hhs hto hr m0 x0
  go_enter Try.func44, Try.ntmps44
  go_wp2
  try rw [hE]
  go_loopw [12, 6, 7, 9] (fun i x1 x2 x3 wr => ∃ k : Nat, (i = .int .i64 (k : Int) ∧ k ≤ n) ∧ Hid ((hs.drop k).any (covB fr to) = r) ∧ Row wr E 33 [.string fr, .slice At m ct, .int .i64 at_] ∧ Mine E w wr) (fun i _ _ _ _ => n - (intOf i).toNat)
  case atStart => exact ⟨0, ⟨rfl, Nat.zero_le _⟩, HR, X0.out, M0.out⟩
  case round =>
    clear HR X0 M0
    obtain ⟨k, ⟨rfl, hk⟩, hno, hx, hmi⟩ := hrel
    have hle := hmi.le
    by_cases hlt : k < n
    · have hkc : k < hs.length := by rw [HN.out]; exact hlt
      obtain ⟨g, o, rfl, c0, c1⟩ := (HV.out wr hmi).at_ k _ (ruV_get hs k hkc)
      have hst := hno.out
      rw [any_step (covB fr to) hs k hkc] at hst
      obtain ⟨hz1, hz2⟩ := HHS.out hs[k] (List.getElem_mem hkc)
      obtain ⟨nm, hnm⟩ : ∃ nm, hs[k].1 = nm := ⟨_, rfl⟩
      obtain ⟨who, hwho⟩ : ∃ kp, hs[k].2 = kp := ⟨_, rfl⟩
      have hck : hs[k] = (nm, who) := by rw [← hnm, ← hwho]
      rw [hnm] at c0
      rw [hwho] at c1 hz2
      rw [hck] at hst
      have hf := fun w => rfo_any who hz2 w
      have hfe := fo_empty who
      obtain ⟨f, hfo⟩ : ∃ f, fo who = f := ⟨_, rfl⟩
      obtain ⟨ff, hff⟩ : ∃ f, fo fr = f := ⟨_, rfl⟩
      have hst2 : (((f.toList == []) || (ff.toList == f.toList) || to.any fun s => (fo s).toList == f.toList) || (hs.drop (k + 1)).any (covB fr to)) = r := by rw [← hfo, ← hff]; exact hst
      simp only [hfo] at hf
      rw [hfo] at hfe
      have HFF := HF.out
      simp only [hff] at HFF
      obtain ⟨b1, hb1⟩ : ∃ b, (f.toList == []) = b := ⟨_, rfl⟩
      obtain ⟨b2, hb2⟩ : ∃ b, (ff.toList == f.toList) = b := ⟨_, rfl⟩
      rw [hb1, hb2] at hst2
      have e1 : (who.toList == []) = b1 := by rw [← hfe]; exact hb1
      have e2 : who.toList.isEmpty = b1 := by rw [isEmpty_eq]; exact e1
      have HF1 := Lib.hid hf
      have HF2 := Lib.hid HFF
      have d0 : decide (k < n) = true := decide_eq_true hlt
      have k0 : (0 : Int) ≤ (k : Int) := by omega
      have k1 : (k : Int) < (n : Int) := by omega
      have ma := hmi.alloc (.cells #[.string nm, .string who] 47)
      have xa := hx.alloc (.cells #[.string nm, .string who] 47)
      have ra := Row.new wr #[.string nm, .string who] 47
      have MA := Lib.hid ma
      have XA := Lib.hid xa
      have RA := Lib.hid ra
      have HST := Lib.hid hst2
      clear hst hst2 hno hnm hwho hck hf hfe hfo hff HFF hb1 ma xa ra hx hmi hz1 hz2
      go_wp2_with fail
      refine (HF1.out _).mono ?_
      rintro e w1 ⟨rfl, hbw⟩
      have m1 := MA.out.call hbw
      have x1 := XA.out.belowS hbw
      have r1 := RA.out.belowS hbw
      have c2 := r1.cell1
      have c3 := x1.cell0
      have M1 := Lib.hid m1
      have X1 := Lib.hid x1
      clear m1 x1 r1 hbw c0 c1
      cases b1 with
      | true =>
        have hf := HST.out
        simp only [Bool.true_or] at hf
        subst hf
        go_wp2
        go_ret
        exact ⟨rfl, by rw [hE]; exact M1.out.bel⟩
      | false =>
        go_wp2_with fail
        refine (HF2.out _).mono ?_
        rintro e w2 ⟨rfl, hbw2⟩
        have m2 := M1.out.call hbw2
        have x2 := X1.out.belowS hbw2
        have M2 := Lib.hid m2
        have X2 := Lib.hid x2
        cases b2 with
        | true =>
          have hf := HST.out
          simp only [Bool.true_or, Bool.or_true] at hf
          subst hf
          go_wp2
          go_ret
          exact ⟨rfl, by rw [hE]; exact M2.out.bel⟩
        | false =>
          have hst3 := HST.out
          rw [Bool.false_or, Bool.false_or] at hst3
          have c4 := x2.cell1
          have h3 : Hid (((to.drop 0).any (fun s => (fo s).toList == f.toList) || (hs.drop (k + 1)).any (covB fr to)) = r) := hst3
          clear m2 x2 hst3 hbw2 c2 c3
          go_wp2
          go_loopw [32, 9] (fun i x3 wz => ∃ j : Nat, (i = .int .i64 (j : Int) ∧ j ≤ m) ∧ Hid (((to.drop j).any (fun s => (fo s).toList == f.toList) || (hs.drop (k + 1)).any (covB fr to)) = r) ∧ Row wz E 33 [.string fr, .slice At m ct, .int .i64 at_] ∧ Mine E w wz) (fun i _ _ => m - (intOf i).toNat)
          case atStart => exact ⟨0, ⟨rfl, Nat.zero_le _⟩, h3, X2.out, M2.out⟩
          case round =>
            clear h3 X2 M2 M1 X1 MA XA RA HST HF2
            obtain ⟨j, ⟨rfl, hj⟩, hno, hx, hmi⟩ := hrel
            by_cases hjm : j < m
            · have hjc : j < to.length := by rw [HM.out]; exact hjm
              obtain ⟨g', o', rfl, cc⟩ := TV.at_ (HT.out _ hmi) j hjc
              have hst := hno.out
              rw [any_step _ to j hjc] at hst
              have hzz := HTO.out to[j] (List.getElem_mem hjc)
              obtain ⟨s, hs'⟩ : ∃ s, to[j] = s := ⟨_, rfl⟩
              rw [hs'] at cc hst hzz
              have hf := fun w => rfo_any s hzz w
              obtain ⟨z, hz⟩ : ∃ f, fo s = f := ⟨_, rfl⟩
              rw [hz] at hst
              simp only [hz] at hf
              obtain ⟨b3, hb3⟩ : ∃ b, (z.toList == f.toList) = b := ⟨_, rfl⟩
              rw [hb3] at hst
              have HST := Lib.hid hst
              have HFZ := Lib.hid hf
              have M1 := Lib.hid hmi
              have X1 := Lib.hid hx
              have d1 : decide (j < m) = true := decide_eq_true hjm
              have j0 : (0 : Int) ≤ (j : Int) := by omega
              have j1 : (j : Int) < (m : Int) := by omega
              clear hst hf hmi hx hno hs' hz hzz
              go_wp2_with fail
              refine (HFZ.out _).mono ?_
              rintro e w3 ⟨rfl, hbw3⟩
              cases b3 with
              | true =>
                have hf := HST.out
                simp only [Bool.true_or] at hf
                subst hf
                go_wp2
                go_ret
                exact ⟨rfl, by rw [hE]; exact (M1.out.call hbw3).bel⟩
              | false =>
                have h4 := HST.out
                rw [Bool.false_or] at h4
                have H4 := Lib.hid h4
                clear h4
                go_wp2
                go_roundw
                case rel => exact ⟨j + 1, ⟨by go_num, by omega⟩, H4.out, X1.out.belowS hbw3, M1.out.call hbw3⟩
                case measure => simp [intOf]; omega
            · have d1 : decide (j < m) = false := decide_eq_false hjm
              have h4 := hno.out
              rw [any_end _ to j (by rw [HM.out]; omega), Bool.false_or] at h4
              have H4 := Lib.hid h4
              have M1 := Lib.hid hmi
              have X1 := Lib.hid hx
              clear h4 hmi hx hno
              go_wp2
              go_roundw
              case rel => exact ⟨k + 1, ⟨by go_num, by omega⟩, H4.out, X1.out, M1.out⟩
              case measure => simp [intOf]; omega
    · have d0 : decide (k < n) = false := decide_eq_false hlt
      have hf := hno.out
      rw [any_end _ hs k (by rw [HN.out]; omega)] at hf
      subst hf
      go_wp2
      go_ret
      exact ⟨rfl, by rw [hE]; exact hmi.bel⟩
end Go.Proofs.Ytofdfcngmkkfdaa

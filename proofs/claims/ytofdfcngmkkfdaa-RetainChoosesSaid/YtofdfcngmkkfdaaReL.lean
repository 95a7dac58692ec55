/- the reference's Choose. -/
import Derived.RangeFuncNested
import Derived.RangeFuncBound
import Derived.RangeFuncCalls
import Derived.RangeFuncLeaves
import Derived.Shelf.Abstract
import Derived.Shelf.RegionOpen
import Derived.WalkKit
import Derived.OwnWalkIn
import Derived.TacticsInMore
import Derived.LoopNIn
import Derived.LoopIn
import Derived.Outline
import Derived.Lib.Hide
import Derived.Lib.SliceRun
import Derived.IntWalk
import Derived.WalkLawsBesides
import Derived.WalkSpells
import Derived.Laws.BitsAllLaws
import Derived.Lib.ConvBytes
import Derived.Maps.AppendAt
import Derived.Lib.AppendStr
import Derived.Lib.SlBytesConst
import Derived.Laws.AppendOwnNone
import Derived.Laws.OwnMore
import Derived.Laws.BytesArg
import Derived.Deep.RegionHeld3
import Derived.BigQuiet
import Derived.Deep.RegionLaw
import Derived.Deep.QuietTactic
import Derived.Lib.OthersKept
import Derived.Test.YtofdfcngmkkfdaaProg
import Derived.Deep.DeepFit
import Derived.Test.YtofdfcngmkkfdaaReK
set_option linter.unusedVariables false
set_option linter.unusedSimpArgs false
namespace Go.Proofs.Ytofdfcngmkkfdaa
open Go Go.RowKit Go.Shelf

set_option maxRecDepth 100000 in
theorem rof13_any (a d : ByteArray) (h : a.size ≤ maxLen) (w : World) :
    Calls Try.prog 76 #[.string a, .string d] w fun e w' => e = .returned (.bool ((dmS a).toList == d.toList)) ∧ Below w.heap.size w w' := by
  have HF := Lib.hid (fun w => rfo_any a h w)
  have HO := Lib.hid (fun w => rofo_any a h w)
  obtain ⟨f0, hf0⟩ : ∃ f, fo a = f := ⟨_, rfl⟩
  obtain ⟨d0, hd0⟩ : ∃ f, dmS a = f := ⟨_, rfl⟩
  obtain ⟨l0, hl0⟩ : ∃ f, lcS a = f := ⟨_, rfl⟩
  simp only [hf0, hd0, hl0] at HF HO
  rw [hd0]
  obtain ⟨r, hr⟩ : ∃ r, (d0.toList == d.toList) = r := ⟨_, rfl⟩
  rw [hr]
  clear hf0 hd0 hl0
  go_enter Try.func76, Try.ntmps76
  go_wp2_with fail
  refine (HF.out _).mono ?_
  rintro e w1 ⟨rfl, hb1⟩
  go_wp2_with fail
  refine (HO.out _).mono ?_
  rintro e w2 ⟨rfl, hb2⟩
  go_wp2
  go_ret
  exact ⟨rfl, onB hb1 hb2⟩
set_option maxRecDepth 100000 in
set_option maxHeartbeats 8000000 in
/-- **the reference's Choose** -/
theorem rchoose_any (v : Value) (cs : List Cl) (u : Value) (rs : List Ru) (fr : ByteArray) (to : List ByteArray) (tv : Value) (at_ : Int) (w : World) (hv : PV w v (clV cs)) (hu : PV w u (ruV rs)) (hT : TV w tv to)
    (hfr : fr.size ≤ maxLen) (hto : ∀ s ∈ to, s.size ≤ maxLen) :
    Calls Try.prog 48 #[v, u, .agg #[.string fr, tv, .int .i64 at_]] w fun e w' => e = .returned (.string (chS cs rs fr to)) ∧ Below w.heap.size w w' := by
  have hv0 := hv
  have hu0 := hu
  have hT0 := hT
  obtain ⟨A, c, rfl, hc1, -⟩ := hv
  obtain ⟨Au, cu, rfl, hc2, -⟩ := hu
  obtain ⟨At, ct, rfl, hct, -⟩ := hT
  rw [clV_len] at hv0 hc1 ⊢
  rw [ruV_len] at hu0 hc2 ⊢
  rw [List.length_map] at hT0 hct ⊢
  obtain ⟨N, hN⟩ : ∃ n, cs.length = n := ⟨_, rfl⟩
  obtain ⟨n, hn⟩ : ∃ n, rs.length = n := ⟨_, rfl⟩
  obtain ⟨m, hm⟩ : ∃ m, to.length = m := ⟨_, rfl⟩
  rw [hN] at hv0 hc1 ⊢
  rw [hn] at hu0 hc2 ⊢
  rw [hm] at hT0 hct ⊢
  obtain ⟨E, hE⟩ : ∃ E, w.heap.size = E := ⟨_, rfl⟩
  obtain ⟨res, hres⟩ : ∃ r, chS cs rs fr to = r := ⟨_, rfl⟩
  have HR : Hid (chG (hitB fr to) (dflt cs) (rs.drop 0) = res) := hres
  rw [hres]
  have m0 : Mine E w (w.alloc (.cells #[.string fr, .slice At m ct, .int .i64 at_] 33)) := by rw [← hE]; exact (Mine.refl w).alloc _
  have x0 : Row (w.alloc (.cells #[.string fr, .slice At m ct, .int .i64 at_] 33)) E 33 [.string fr, .slice At m ct, .int .i64 at_] := by rw [← hE]; exact Row.new w _ _
  have HU : Hid (∀ wr, Mine E w wr → PV wr (.slice Au n cu) (ruV rs)) := fun wr h => hu0.below (hE ▸ h.bel)
  have HV : Hid (∀ wr, Mine E w wr → PV wr (.slice A N c) (clV cs)) := fun wr h => hv0.below (hE ▸ h.bel)
  have HT : Hid (∀ wr, Mine E w wr → TV wr (.slice At m ct) to) := fun wr h => hT0.below (hE ▸ h.bel)
  have HN := Lib.hid hN
  have Hn := Lib.hid hn
  have Hm := Lib.hid hm
  have HTO := Lib.hid hto
  have HF := Lib.hid (fun d w => rof13_any fr d hfr w)
  have M0 := Lib.hid m0
  have X0 := Lib.hid x0
  clear hv0 hu0 hT0 hN hn hm hto hres m0 x0
  go_enter Try.func48, Try.ntmps48
  go_wp2
  try rw [hE]
  go_loopw [13, 8, 10] (fun i x1 x2 wr => ∃ k : Nat, (i = .int .i64 (k : Int) ∧ k ≤ n) ∧ Hid (chG (hitB fr to) (dflt cs) (rs.drop k) = res) ∧ Row wr E 33 [.string fr, .slice At m ct, .int .i64 at_] ∧ Mine E w wr) (fun i _ _ _ => n - (intOf i).toNat)
  case atStart => exact ⟨0, ⟨rfl, Nat.zero_le _⟩, HR, X0.out, M0.out⟩
  case round =>
    clear HR X0 M0
    obtain ⟨k, ⟨rfl, hk⟩, hno, hx, hmi⟩ := hrel
    by_cases hlt : k < n
    · have hkc : k < rs.length := by rw [Hn.out]; exact hlt
      obtain ⟨g, o, rfl, c0, c1⟩ := (HU.out wr hmi).at_ k _ (ruV_get rs k hkc)
      have hst := hno.out
      rw [chG_step (hitB fr to) (dflt cs) rs k hkc] at hst
      obtain ⟨dm, hdm⟩ : ∃ nm, rs[k].1 = nm := ⟨_, rfl⟩
      obtain ⟨cl, hcl⟩ : ∃ kp, rs[k].2 = kp := ⟨_, rfl⟩
      have hck : rs[k] = (dm, cl) := by rw [← hdm, ← hcl]
      rw [hdm] at c0
      rw [hcl] at c1
      rw [hck] at hst
      have hst2 : (if (((dmS fr).toList == dm.toList) || (to.map dmS).any fun d => d.toList == dm.toList) = true then cl else chG (hitB fr to) (dflt cs) (rs.drop (k + 1))) = res := hst
      rw [List.any_map] at hst2
      have hof := fun w => HF.out dm w
      obtain ⟨b2, hb2⟩ : ∃ b, ((dmS fr).toList == dm.toList) = b := ⟨_, rfl⟩
      rw [hb2] at hst2
      simp only [hb2] at hof
      have d0 : decide (k < n) = true := decide_eq_true hlt
      have k0 : (0 : Int) ≤ (k : Int) := by omega
      have k1 : (k : Int) < (n : Int) := by omega
      have ma := hmi.alloc (.cells #[.string dm, .string cl] 78)
      have xa := hx.alloc (.cells #[.string dm, .string cl] 78)
      have ra := Row.new wr #[.string dm, .string cl] 78
      have e0 := xa.cell0
      obtain ⟨G, hG⟩ : ∃ G, wr.heap.size = G := ⟨_, rfl⟩
      have MA := Lib.hid ma
      have XA := Lib.hid xa
      rw [hG] at ra
      have RA := Lib.hid ra
      have HST := Lib.hid hst2
      have HOF := Lib.hid hof
      clear hst hst2 hno hdm hcl hck hb2 ma xa ra hx hmi hof
      go_wp2_with fail
      refine (HOF.out _).mono ?_
      rintro e w1 ⟨rfl, hbw⟩
      have m1 := MA.out.call hbw
      have x1 := XA.out.belowS hbw
      have r1 := RA.out.belowS hbw
      have c2 := r1.cell1
      have c3 := x1.cell1
      have M1 := Lib.hid m1
      have X1 := Lib.hid x1
      have R1 := Lib.hid r1
      clear m1 x1 r1 hbw c0 c1 e0
      try rw [hG]
      cases b2 with
      | true =>
        have hf : cl = res := by have := HST.out; simp only [Bool.true_or, if_true] at this; exact this
        subst hf
        go_wp2
        go_ret
        exact ⟨rfl, by first | exact M1.out.bel | (rw [hE]; exact M1.out.bel)⟩
      | false =>
        have h3 : Hid ((if ((to.drop 0).any fun s => (dmS s).toList == dm.toList) = true then cl else chG (hitB fr to) (dflt cs) (rs.drop (k + 1))) = res) := by have := HST.out; rw [Bool.false_or] at this; exact this
        go_wp2
        go_loopw [27, 10] (fun i x3 wz => ∃ j : Nat, (i = .int .i64 (j : Int) ∧ j ≤ m) ∧ Hid ((if ((to.drop j).any fun s => (dmS s).toList == dm.toList) = true then cl else chG (hitB fr to) (dflt cs) (rs.drop (k + 1))) = res) ∧ Row wz G 78 [.string dm, .string cl] ∧ Row wz E 33 [.string fr, .slice At m ct, .int .i64 at_] ∧ Mine E w wz) (fun i _ _ => m - (intOf i).toNat)
        case atStart => exact ⟨0, ⟨rfl, Nat.zero_le _⟩, h3, R1.out, X1.out, M1.out⟩
        case round =>
          clear h3 M1 X1 R1 MA XA RA HST HOF c2 c3
          obtain ⟨j, ⟨rfl, hj⟩, hno, hr, hx, hmi⟩ := hrel
          by_cases hjm : j < m
          · have hjc : j < to.length := by rw [Hm.out]; exact hjm
            obtain ⟨g', o', rfl, cc⟩ := TV.at_ (HT.out _ hmi) j hjc
            have hst := hno.out
            rw [any_step _ to j hjc] at hst
            have hzz := HTO.out to[j] (List.getElem_mem hjc)
            obtain ⟨s, hs'⟩ : ∃ s, to[j] = s := ⟨_, rfl⟩
            rw [hs'] at cc hst hzz
            have hf := fun w => rof13_any s dm hzz w
            obtain ⟨b3, hb3⟩ : ∃ b, ((dmS s).toList == dm.toList) = b := ⟨_, rfl⟩
            rw [hb3] at hst
            simp only [hb3] at hf
            have f0 := hr.cell0
            have HST := Lib.hid hst
            have HFZ := Lib.hid hf
            have M1 := Lib.hid hmi
            have X1 := Lib.hid hx
            have R1 := Lib.hid hr
            have d1 : decide (j < m) = true := decide_eq_true hjm
            have j0 : (0 : Int) ≤ (j : Int) := by omega
            have j1 : (j : Int) < (m : Int) := by omega
            clear hst hf hmi hx hno hs' hb3 hzz hr
            go_wp2_with fail
            refine (HFZ.out _).mono ?_
            rintro e w3 ⟨rfl, hbw3⟩
            have r3 := R1.out.belowS hbw3
            have f1 := r3.cell1
            have R3 := Lib.hid r3
            clear r3 f0
            cases b3 with
            | true =>
              have hf : cl = res := by have := HST.out; simp only [Bool.true_or, if_true] at this; exact this
              subst hf
              go_wp2
              go_ret
              exact ⟨rfl, by first | exact (M1.out.call hbw3).bel | (rw [hE]; exact (M1.out.call hbw3).bel)⟩
            | false =>
              have h4 := HST.out
              rw [Bool.false_or] at h4
              have H4 := Lib.hid h4
              clear h4
              go_wp2
              go_roundw
              case rel => exact ⟨j + 1, ⟨by go_num, by omega⟩, H4.out, R3.out, X1.out.belowS hbw3, M1.out.call hbw3⟩
              case measure => simp [intOf]; omega
          · have d1 : decide (j < m) = false := decide_eq_false hjm
            have h4 := hno.out
            rw [any_end _ to j (by rw [Hm.out]; omega), if_neg (by decide)] at h4
            have H4 := Lib.hid h4
            have M1 := Lib.hid hmi
            have X1 := Lib.hid hx
            clear h4 hmi hx hno
            go_wp2
            go_roundw
            case rel => exact ⟨k + 1, ⟨by go_num, by omega⟩, H4.out, X1.out, M1.out⟩
            case measure => simp [intOf]; omega
    · have d0 : decide (k < n) = false := decide_eq_false hlt
      have hfin := hno.out
      rw [chG_end _ _ rs k (by rw [Hn.out]; omega)] at hfin
      have hpv := HV.out wr hmi
      have hnl := HN.out
      clear hno
      cases cs with
      | nil =>
        have hz : N = 0 := hnl.symm
        subst hz
        have hres : res = ⟨#[]⟩ := hfin.symm
        subst hres
        clear hpv hnl hfin
        go_wp2
        go_ret
        exact ⟨rfl, by first | exact hmi.bel | (rw [hE]; exact hmi.bel)⟩
      | cons c0' cs' =>
        have hN0 : 0 < N := by rw [← hnl]; simp
        have hres : res = c0'.1 := hfin.symm
        obtain ⟨g, o, rfl, c0, c1⟩ := hpv.at_ 0 _ (clV_get (c0' :: cs') 0 (by simp))
        obtain ⟨nm, hnm⟩ : ∃ nm, c0'.1 = nm := ⟨_, rfl⟩
        simp only [List.getElem_cons_zero, hnm, Nat.zero_mul, Nat.add_zero] at c0 c1
        rw [hnm] at hres
        subst hres
        have e0 : ((N : Int) == 0) = false := by simp; omega
        have e1 : (N == 0) = false := by simp; omega
        have e2 : (0 : Int) < (N : Int) := by omega
        clear hpv hnl hfin c1
        go_wp2
        go_ret
        exact ⟨rfl, by first | exact hmi.bel | (rw [hE]; exact hmi.bel)⟩
end Go.Proofs.Ytofdfcngmkkfdaa

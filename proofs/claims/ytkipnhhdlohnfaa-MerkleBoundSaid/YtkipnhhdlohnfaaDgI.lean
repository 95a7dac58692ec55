/- The reference's Sum. -/
import Derived.RangeFuncNested
import Derived.RangeFuncBound
import Derived.RangeFuncCalls
import Derived.RangeFuncLeaves
import Derived.Shelf.Abstract
import Derived.Shelf.RegionOpen
import Derived.WalkKit
import Derived.OwnWalkIn
import Derived.TacticsInMore
import Derived.LoopNIn
import Derived.LoopIn
import Derived.Outline
import Derived.Lib.Hide
import Derived.Lib.SliceRun
import Derived.IntWalk
import Derived.WalkLawsBesides
import Derived.WalkSpells
import Derived.Laws.BitsAllLaws
import Derived.Lib.ConvBytes
import Derived.Maps.AppendAt
import Derived.Lib.AppendStr
import Derived.Lib.SlBytesConst
import Derived.Laws.AppendOwnNone
import Derived.Laws.OwnMore
import Derived.Laws.BytesArg
import Derived.Deep.RegionHeld3
import Derived.BigQuiet
import Derived.Deep.RegionLaw
import Derived.Deep.QuietTactic
import Derived.Test.YtkipnhhdlohnfaaProg
import Derived.Deep.DeepFit
import Derived.Test.YtkipnhhdlohnfaaDgH
import Derived.Test.YtkipnhhdlohnfaaDgF
set_option linter.unusedVariables false
set_option linter.unusedSimpArgs false
namespace Go.Proofs.Ytkipnhhdlohnfaa
open Go Go.RowKit Go.Shelf

set_option maxRecDepth 100000 in
set_option maxHeartbeats 1000000 in
theorem rsum_gen (v : Value) (w : World) (L P : List UInt8) (hv : SB w v L) (hP : pad L = P) (hmax : L.length ≤ 100000) (sf : Nat → St) (hs0 : (sf 0).list = SW) (hsf : ∀ k, sf (k + 1) = blockS (sf k) (P.drop (64 * k)))
    (N : Nat) (hN : N * 64 = P.length) (out : List UInt8) (hout : outB (sf N) = out) :
    Calls Try.prog 16 #[v] w fun e w' => e = .returned (.agg (enc8 out).toArray) ∧ Below w.heap.size w w' := by
  obtain ⟨A, c, rfl, hc1, hc2, -⟩ := hv.form
  have Hv := Lib.hid hv
  have HP := Lib.hid hP
  have Hs0 := Lib.hid hs0
  have Hsf := Lib.hid hsf
  have HN := Lib.hid hN
  have Hout := Lib.hid hout
  obtain ⟨i0, hi, hz0, hz1, hz2⟩ := info_parts info5
  obtain ⟨B0, hB0⟩ : ∃ B0, w.heap.size = B0 := ⟨_, rfl⟩
  have hr0 : Row (w.alloc (.cells #[.int .u8 0, .int .u8 0, .int .u8 0, .int .u8 0, .int .u8 0, .int .u8 0, .int .u8 0, .int .u8 0, .int .u8 0, .int .u8 0, .int .u8 0, .int .u8 0, .int .u8 0, .int .u8 0, .int .u8 0, .int .u8 0, .int .u8 0, .int .u8 0, .int .u8 0, .int .u8 0, .int .u8 0, .int .u8 0, .int .u8 0, .int .u8 0, .int .u8 0, .int .u8 0, .int .u8 0, .int .u8 0, .int .u8 0, .int .u8 0, .int .u8 0, .int .u8 0] 24)) w.heap.size 24 (enc8 (List.replicate 32 0)) := Row.new w _ _
  have hb0 : Below w.heap.size w (w.alloc (.cells #[.int .u8 0, .int .u8 0, .int .u8 0, .int .u8 0, .int .u8 0, .int .u8 0, .int .u8 0, .int .u8 0, .int .u8 0, .int .u8 0, .int .u8 0, .int .u8 0, .int .u8 0, .int .u8 0, .int .u8 0, .int .u8 0, .int .u8 0, .int .u8 0, .int .u8 0, .int .u8 0, .int .u8 0, .int .u8 0, .int .u8 0, .int .u8 0, .int .u8 0, .int .u8 0, .int .u8 0, .int .u8 0, .int .u8 0, .int .u8 0, .int .u8 0, .int .u8 0] 24)) := (Below.refl _ w).alloc (Nat.le_refl _) _
  have hs1 : B0 + 1 ≤ (w.alloc (.cells #[.int .u8 0, .int .u8 0, .int .u8 0, .int .u8 0, .int .u8 0, .int .u8 0, .int .u8 0, .int .u8 0, .int .u8 0, .int .u8 0, .int .u8 0, .int .u8 0, .int .u8 0, .int .u8 0, .int .u8 0, .int .u8 0, .int .u8 0, .int .u8 0, .int .u8 0, .int .u8 0, .int .u8 0, .int .u8 0, .int .u8 0, .int .u8 0, .int .u8 0, .int .u8 0, .int .u8 0, .int .u8 0, .int .u8 0, .int .u8 0, .int .u8 0, .int .u8 0] 24)).heap.size := by rw [← hB0]; show w.heap.size + 1 ≤ (w.heap.push _).size; simp
  have hv1 := hv.below hb0
  rw [hB0] at hr0 hb0
  have R0 := Lib.hid hr0
  have HB0 := Lib.hid hb0
  have HV1 := Lib.hid hv1
  have e1 : IntKind.u64.wrap (L.length : Int) = (L.length : Int) := by rw [IntKind.wrap_u64]; omega
  obtain ⟨n8, hn8⟩ : ∃ n8, 8 * L.length = n8 := ⟨_, rfl⟩
  have e2 : IntKind.u64.wrap ((L.length : Int) * 8) = (n8 : Int) := by rw [IntKind.wrap_u64]; omega
  clear hv hP hs0 hsf hN hout hr0 hb0 hv1
  go_enter Try.func16, Try.ntmps16
  go_wp2_with (refine wpB_append rfl _ _ rfl (B0 + 1) (.slice none 0 0) _ [] L rfl (World.ownsRow_nil _ _ _ _) rfl HV1.out (by simp; omega) hs1 ?_)
  intro v1 w1 hown1 _ hbel1
  have R1 := Lib.hid (R0.out.below hbel1 (Nat.lt_succ_self _))
  have HB1 := Lib.hid (HB0.out.trans (hbel1.mono (Nat.le_succ _)))
  have hsz1 : B0 + 1 ≤ w1.heap.size := Nat.le_trans hs1 hbel1.size
  obtain ⟨A1, c1, rfl, hd1, hd2, -⟩ := hown1.reads.form
  have HO1 := Lib.hid hown1
  clear hown1 hbel1 R0 HB0 HV1
  go_wp2_with (at_builtin; refine wpB_append rfl _ _ rfl (B0 + 1) _ _ L [128] rfl (HO1.out.alloc _) rfl (OB_lit w1 #[.int .u8 128] [128] (by simp) rfl).reads (by simp; omega) (by simp; omega) ?_)
  intro v2 w2 hown2 _ hbel2
  have R2 := Lib.hid ((R1.out.alloc (.cells #[.int .u8 128] 5)).below hbel2 (Nat.lt_succ_self _))
  have HB2 := Lib.hid ((HB1.out.alloc (by omega) (.cells #[.int .u8 128] 5)).trans (hbel2.mono (Nat.le_succ _)))
  have hsz2 : B0 + 1 ≤ w2.heap.size := Nat.le_trans (by simp; omega) hbel2.size
  have HO2 := Lib.hid hown2
  obtain ⟨z, hz⟩ : ∃ z, (120 - (L.length + 1) % 64) % 64 = z := ⟨_, rfl⟩
  have hz64 : z < 64 := by omega
  have Hz := Lib.hid hz
  obtain ⟨A2, c2, rfl, hd5, hd6, -⟩ := HO2.out.reads.form
  have hl2 : (L ++ [128]).length = L.length + 1 := by simp
  rw [hl2] at HO2 hd5 ⊢
  clear hl2 hown2 hbel2 HO1 R1 HB1 hz
  go_wp2
  go_loopw [4] (fun b wr => ∃ k : Nat, k ≤ z ∧ OB wr (B0 + 1) b (L ++ [128] ++ List.replicate k 0) ∧ Row wr B0 24 (enc8 (List.replicate 32 0)) ∧ Below B0 w wr ∧ B0 + 1 ≤ wr.heap.size) (fun b _ => match b with | .slice _ n _ => 200000 - n | _ => 0)
  case atStart => exact ⟨0, Nat.zero_le _, by rw [List.replicate_zero, List.append_nil]; exact HO2.out, R2.out, HB2.out, hsz2⟩
  case round =>
    clear R2 HB2 HO2 hsz2
    obtain ⟨k, hkz, hown, hr0, hb, hszr⟩ := hrel
    have hzz := Hz.out
    have hml : (L ++ [128] ++ List.replicate k 0).length = L.length + 1 + k := by simp; omega
    obtain ⟨A3, c3, rfl, hd3, hd4, -⟩ := hown.reads.form
    by_cases hk : k < z
    · have hrep : L ++ [128] ++ List.replicate k 0 ++ [0] = L ++ [128] ++ List.replicate (k + 1) 0 := by
        rw [List.append_assoc, ← List.replicate_succ']
      obtain ⟨MK, hMK⟩ : ∃ MK, L ++ [128] ++ List.replicate k 0 = MK := ⟨_, rfl⟩
      rw [hMK] at hrep hml hd3 hown ⊢
      obtain ⟨n, hn⟩ : ∃ n, MK.length = n := ⟨_, rfl⟩
      rw [hn] at hml hd3 hown ⊢
      have hne1 : ((n : Int) % 64 == 56) = false := by simp; omega
      have hne2 : ((n : Int) % 64 != 56) = true := by simp; omega
      have Hown := Lib.hid hown
      have R0 := Lib.hid hr0
      have HB := Lib.hid hb
      have Hrep := Lib.hid hrep
      have Hn := Lib.hid hn
      have hnm : n ≤ 150000 := by omega
      have HMK := Lib.hid hMK
      have hnk : n = L.length + 1 + k := hml
      have Hnk := Lib.hid hnk
      clear hown hr0 hb hrep hzz hn hml hMK hnk
      go_wp2_with (at_builtin; refine wpB_append rfl _ _ rfl (B0 + 1) _ _ MK [0] rfl (Hown.out.alloc _) rfl (OB_lit wr #[.int .u8 0] [0] (by simp) rfl).reads (by rw [Hn.out]; simp; omega) (by simp; omega) ?_)
      intro v3 w3 hown3 _ hbel3
      rw [Hrep.out] at hown3
      have R3 := Lib.hid ((R0.out.alloc (.cells #[.int .u8 0] 5)).below hbel3 (Nat.lt_succ_self _))
      have HB3 := Lib.hid ((HB.out.alloc (by omega) (.cells #[.int .u8 0] 5)).trans (hbel3.mono (Nat.le_succ _)))
      have hsz3 : B0 + 1 ≤ w3.heap.size := Nat.le_trans (by simp; omega) hbel3.size
      obtain ⟨A4, c4, rfl, hd5, hd6, -⟩ := hown3.reads.form
      have hl4 : (L ++ [128] ++ List.replicate (k + 1) 0).length = n + 1 := by have := Hnk.out; simp; omega
      rw [hl4] at hown3 hd5 ⊢
      have HO3 := Lib.hid hown3
      clear hown3 hbel3 hl4 Hown R0 HB
      go_wp2
      go_roundw
      case rel => exact ⟨k + 1, by omega, HO3.out, R3.out, HB3.out, hsz3⟩
      case measure => simp; omega
    · obtain rfl : k = z := by omega
      obtain ⟨M, hM⟩ : ∃ M, L ++ [128] ++ List.replicate k 0 = M := ⟨_, rfl⟩
      rw [hM] at hown hml hd3 ⊢
      obtain ⟨n, hn⟩ : ∃ n, M.length = n := ⟨_, rfl⟩
      rw [hn] at hml hd3 hown ⊢
      have hne1 : ((n : Int) % 64 == 56) = true := by simp; omega
      have hne2 : ((n : Int) % 64 != 56) = false := by simp; omega
      have Hown := Lib.hid hown
      have R0 := Lib.hid hr0
      have HB := Lib.hid hb
      have HM := Lib.hid hM
      have Hn := Lib.hid hn
      have hnm : n ≤ 150000 := by omega
      clear hown hr0 hb hzz hM hn hml
      go_wp2
      go_loopw [4, 5] (fun b q wr => ∃ i : Nat, (q = .int .i64 (7 - (i : Int)) ∧ i ≤ 8) ∧ OB wr (B0 + 1) b (M ++ (be8 n8).take i) ∧ Row wr B0 24 (enc8 (List.replicate 32 0)) ∧ Below B0 w wr ∧ B0 + 1 ≤ wr.heap.size) (fun _ q _ => (intOf q + 1).toNat)
      case atStart => exact ⟨0, ⟨rfl, by omega⟩, by rw [List.take_zero, List.append_nil]; exact Hown.out, R0.out, HB.out, hszr⟩
      case round =>
        clear Hown R0 HB hszr
        obtain ⟨i, ⟨rfl, hi8⟩, hown, hr0, hb, hszr⟩ := hrel
        obtain ⟨A5, c5, rfl, hd7, hd8, -⟩ := hown.reads.form
        have hl5 : (M ++ (be8 n8).take i).length = n + i := by rw [List.length_append, Hn.out, List.length_take, be8_length]; omega
        rw [hl5] at hown hd7 ⊢
        have Hown := Lib.hid hown
        have R0 := Lib.hid hr0
        have HB := Lib.hid hb
        clear hown hr0 hb
        by_cases h8 : i < 8
        · obtain ⟨m, hm⟩ : ∃ m, 56 - 8 * i = m := ⟨_, rfl⟩
          have s1 : IntKind.i64.wrap (8 * (7 - (i : Int))) = (m : Int) := by rw [IntWalk.i64_in _ (by omega)]; omega
          have s2 : IntKind.u64.wrap (m : Int) = (m : Int) := by rw [IntKind.wrap_u64]; omega
          have s3 : (m : Int) ≤ 64 := by omega
          have s4 : decide (0 ≤ 7 - (i : Int)) = true := by simp; omega
          have s5 : IntKind.i64.wrap (7 - (i : Int) - 1) = 7 - ((i + 1 : Nat) : Int) := by rw [IntWalk.i64_in _ (by omega)]; omega
          have s6 : (0 : Int) ≤ 7 - (i : Int) := by omega
          have hnat : (n8 : Int) / 2 ^ m = ((n8 / 2 ^ m : Nat) : Int) := by simp
          have htk := be8_take n8 i h8
          rw [hm] at htk
          have Htk := Lib.hid htk
          obtain ⟨x, hxe⟩ : ∃ x, n8 / 2 ^ m = x := ⟨_, rfl⟩
          rw [hxe] at hnat Htk
          clear htk hxe hm
          go_wp2_with (at_builtin; refine wpB_append rfl _ _ rfl (B0 + 1) _ _ (M ++ (be8 n8).take i) [UInt8.ofNat x] rfl (Hown.out.alloc _) rfl (OB_lit wr #[.int .u8 ((x : Int) % 256)] [UInt8.ofNat x] (by simp) (by simp [enc8])).reads (by rw [hl5]; simp; omega) (by simp; omega) ?_)
          intro v3 w3 hown3 _ hbel3
          rw [← Htk.out] at hown3
          have R3 := Lib.hid ((R0.out.alloc (.cells #[.int .u8 ((x : Int) % 256)] 5)).below hbel3 (Nat.lt_succ_self _))
          have HB3 := Lib.hid ((HB.out.alloc (by omega) (.cells #[.int .u8 ((x : Int) % 256)] 5)).trans (hbel3.mono (Nat.le_succ _)))
          have hsz3 : B0 + 1 ≤ w3.heap.size := Nat.le_trans (by simp; omega) hbel3.size
          have HO3 := Lib.hid hown3
          clear hown3 hbel3 Hown R0 HB
          go_wp2
          go_roundw
          case rel => exact ⟨i + 1, ⟨by congr 1, by omega⟩, HO3.out, R3.out, HB3.out, hsz3⟩
          case measure => simp [intOf]; omega
        · obtain rfl : i = 8 := by omega
          have hPe : M ++ (be8 n8).take 8 = P := by
            rw [← HM.out, ← HP.out, List.take_of_length_le (by rw [be8_length]; exact Nat.le_refl _), ← hn8, ← Hz.out]; rfl
          have hPl : n + 8 = P.length := by rw [← hPe, List.length_append, Hn.out, List.length_take, be8_length]; rfl
          rw [hPe, hPl] at Hown
          rw [hPl] at hd7 ⊢
          have hPm : P.length ≤ 200000 := by omega
          obtain ⟨np, hnp⟩ : ∃ np, P.length = np := ⟨_, rfl⟩
          rw [hnp] at hd7 hPm ⊢
          have HNP := Lib.hid hnp
          have HSB := Lib.hid (show SB wr (.slice A5 np c5) P by rw [← hnp]; exact Hown.out.reads)
          obtain ⟨wp, rfl⟩ : ∃ wp, wp = wr := ⟨_, rfl⟩
          obtain ⟨n1, hn1⟩ : ∃ n1, wp.heap.size = n1 := ⟨_, rfl⟩
          have Hn1 := Lib.hid hn1
          have hlow : B0 < n1 := by omega
          rw [show (7 : Int) - ((8 : Nat) : Int) = -1 from by decide]
          obtain ⟨i1, hi1, hy0, hy1, hy2⟩ := info_parts infoW
          clear hPe hPl hnp hn1 hn8 e1 e2 HM Hn Hz Hown hnm hl5
          go_wp2
          go_loopw [6, 7] (fun b q wx => ∃ i : Nat, (q = .int .i64 (i : Int) ∧ i ≤ 8) ∧ wx.ownsRow n1 56 1 b i (encW (SW.take i)) ∧ Below n1 wp wx) (fun _ q _ => 8 - (intOf q).toNat)
          case atStart => exact ⟨0, ⟨rfl, by omega⟩, World.ownsRow_nil _ _ _ _, Below.refl _ _⟩
          case round =>
            obtain ⟨i, ⟨rfl, hi8'⟩, hrow, hbx⟩ := hrel
            have hszx : n1 ≤ wr.heap.size := by have := hbx.size; have := Hn1.out; omega
            have Hrow := Lib.hid hrow
            have Hbx := Lib.hid hbx
            clear hrow hbx
            by_cases h8 : i < 8
            · have hsw : SW.take (i + 1) = SW.take i ++ [gw SW i] := by
                have hl := SW_length
                rw [List.take_succ_eq_append_getElem (by omega)]
                unfold gw; rw [List.getElem?_eq_getElem (by omega)]; rfl
              have TK := Lib.hid (fun S hS w => rword_begin S hS i h8 w)
              have Hsw := Lib.hid hsw
              obtain ⟨y, hy⟩ : ∃ y, gw SW i = y := ⟨_, rfl⟩
              rw [hy] at TK Hsw
              clear hsw hy
              go_wp2_with fail
              refine (TK.out _ (by kernel_rfl) _).mono ?_
              rintro e wA ⟨rfl, hwA⟩
              subst hwA
              go_wp2_with (at_builtin; refine wpList_append_own _ rfl _ _ 55 rfl n1 56 i1 (.int .u32 0) 1 4 Try.underlying55 hi1 hy0 hy1 hy2 rfl (by decide) _ _ _ rfl (Hrow.out.alloc _) ⟨wA.heap.size, 0, none⟩ 1 1 [.int .u32 (y.toNat : Int)] rfl rfl (cell_one_new _ _ _) (by simp [Value.oneCell']) (by unfold maxLen; omega) (by omega) (by simp; omega) ?_)
              intro v' w3 hown' hgrow _
              have hlow' := Hrow.out.lt
              have HB1 := Lib.hid ((Hbx.out.alloc hszx (.cells #[.int .u32 (y.toNat : Int)] 56)).grown hgrow (by simp; omega) (fun j hj => (hlow' j hj).1))
              clear hgrow hlow' Hrow Hbx
              go_wp2
              go_roundw
              case rel =>
                refine ⟨i + 1, ⟨by go_num, by omega⟩, ?_, HB1.out⟩
                rw [Hsw.out]
                have e : encW (SW.take i ++ [y]) = encW (SW.take i) ++ [.int .u32 (y.toNat : Int)] := by simp [encW]
                rw [e]
                exact hown'
              case measure => simp [intOf]; omega
            · obtain rfl : i = 8 := by omega
              have hSW : SW.take 8 = SW := List.take_of_length_le (by rw [SW_length]; exact Nat.le_refl _)
              have hOV : ∀ u, wr.ownsRow n1 56 1 u 8 (encW (SW.take 8)) → SL wr u (encW SW) := fun u h => by
                rw [hSW] at h
                exact OV.reads (base := n1) (e := 56) (by unfold OV; rw [encW_length, SW_length]; exact h)
              have HSL := Lib.hid (hOV _ Hrow.out)
              clear hSW hOV Hrow
              rw [show ((8 : Nat) : Int) = 8 from rfl]
              go_wp2
              go_loopw [6, 8] (fun b q wx => ∃ k : Nat, (q = .int .i64 ((64 * k : Nat) : Int) ∧ k ≤ N) ∧ SL wx b (encW (sf k).list) ∧ Below n1 wp wx) (fun _ q _ => 300000 - (intOf q).toNat)
              case atStart => exact ⟨0, ⟨rfl, by omega⟩, by rw [Hs0.out]; exact HSL.out, Hbx.out⟩
              case round =>
                clear HSL Hbx hszx
                obtain ⟨k, ⟨rfl, hkN⟩, hsl, hbx⟩ := hrel
                have hNN := HN.out
                rw [HNP.out] at hNN
                have hl8 : (encW (sf k).list).length = 8 := rfl
                obtain ⟨Av, cv, rfl, ⟨hv1, hv2⟩, hvc⟩ := hsl
                rw [hl8] at hv1 hvc ⊢
                obtain ⟨e, he⟩ : ∃ e, 64 * k = e := ⟨_, rfl⟩
                rw [he]
                by_cases hk : k < N
                · have m1 : IntKind.i64.wrap ((e : Int) + 64) = (e : Int) + 64 := IntWalk.i64_in _ (by omega)
                  have hsr := fun w => slice_run2 A5 np c5 e (e + 64) (by omega) (by omega) (e : Int) ((e : Int) + 64) rfl (by omega) 64 (c5 - e) (by omega) rfl w
                  have hsb := (HSB.out.below (by rw [Hn1.out]; exact hbx)).cut e 64 (c5 - e) (by rw [HNP.out]; omega) rfl
                  have hdl : ((P.drop e).take 64).length = 64 := by rw [List.length_take, List.length_drop, HNP.out]; omega
                  have hone := rone_any (sf k) ((P.drop e).take 64) (.slice Av 8 cv) (.slice (cutA A5 c5 e) 64 (c5 - e)) wr ⟨Av, cv, rfl, ⟨hv1, hv2⟩, hvc⟩ hsb (by rw [hdl]; exact Nat.le_refl _) (by rw [hdl]; omega)
                  rw [blockS_take, ← he, ← Hsf.out k, he] at hone
                  have hdec : decide ((e : Int) < (np : Int)) = true := by simp; omega
                  have hdec2 : (e : Int) < (np : Int) := by omega
                  have Hone := Lib.hid hone
                  have Hbx := Lib.hid hbx
                  have He := Lib.hid he
                  have hwsz : n1 ≤ wr.heap.size := by have := hbx.size; have := Hn1.out; omega
                  clear hsb hone hbx hvc he hl8 hdl hNN
                  go_wp2_with fail
                  go_fit (Hone.out)
                  rintro e1 wB ⟨v', rfl, hov, hbB⟩
                  have HSL := Lib.hid hov.reads
                  have HB1 := Lib.hid (Hbx.out.trans (hbB.mono hwsz))
                  clear hov hbB Hone Hbx
                  go_wp2
                  go_roundw
                  case rel =>
                   exact ⟨k + 1, ⟨by congr 1; have := He.out; omega, by omega⟩, HSL.out, HB1.out⟩
                  case measure => simp [intOf]; omega
                · obtain rfl : k = N := by omega
                  have hdec : decide ((e : Int) < (np : Int)) = false := by simp; omega
                  have hdecN : decide (e < np) = false := by simp; omega
                  have hdecM : ¬ e < np := by omega
                  have r0 : Row wr B0 24 (enc8 (List.replicate 32 0)) := R0.out.below hbx (by have := R0.out.lt; have := Hn1.out; omega)
                  have hbw := HB.out.trans (hbx.mono (by omega))
                  have hoe : outB (sf k) = out := Hout.out
                  have hol : out.length = 32 := by rw [← hoe]; exact outB_length _
                  have hget : ∀ i j, i < 8 → j < 4 → out[4 * i + j]? = some (UInt8.ofNat ((gw (sf k).list i).toNat / 2 ^ (24 - 8 * j))) := by
                    intro i j hi hj; rw [← hoe]; exact outB_get _ i j hi hj
                  have hwv : ∀ j, j < 8 → ∃ g o, Av = some ⟨g, o, none⟩ ∧ wr.cell? ⟨g, o + j, none⟩ = some (.int .u32 ((gw (sf k).list j).toNat : Int)) := by
                    intro j hj
                    obtain ⟨g, o, e1, e2⟩ := hvc j hj
                    rw [encW_get _ _ hj] at e2
                    exact ⟨g, o, e1, e2⟩
                  obtain ⟨gv, ov, rfl, -⟩ := hwv 0 (by omega)
                  have hwc : ∀ j, j < 8 → wr.cell? ⟨gv, ov + j, none⟩ = some (.int .u32 ((gw (sf k).list j).toNat : Int)) := by
                    intro j hj
                    obtain ⟨g, o, e1, e2⟩ := hwv j hj
                    cases e1
                    exact e2
                  obtain ⟨st, hst⟩ : ∃ st, (sf k).list = st := ⟨_, rfl⟩
                  rw [hst] at hget hwc
                  obtain ⟨Bo, hBo⟩ : ∃ Bo, wr.heap.size = Bo := ⟨_, rfl⟩
                  have hgB : gv < Bo := by rw [← hBo]; exact World.block_lt_of_cell? _ _ (hwc 0 (by omega))
                  have ro : Row (wr.alloc (.cells #[.int .u8 0, .int .u8 0, .int .u8 0, .int .u8 0, .int .u8 0, .int .u8 0, .int .u8 0, .int .u8 0, .int .u8 0, .int .u8 0, .int .u8 0, .int .u8 0, .int .u8 0, .int .u8 0, .int .u8 0, .int .u8 0, .int .u8 0, .int .u8 0, .int .u8 0, .int .u8 0, .int .u8 0, .int .u8 0, .int .u8 0, .int .u8 0, .int .u8 0, .int .u8 0, .int .u8 0, .int .u8 0, .int .u8 0, .int .u8 0, .int .u8 0, .int .u8 0] 24)) Bo 24 (enc8 (partB out 0)) := by
                    rw [partB_zero, hol, ← hBo]; exact Row.new wr _ _
                  have hB0o : B0 < Bo := by have := r0.lt; omega
                  have Ro := Lib.hid ro
                  have R0a := Lib.hid (r0.alloc (.cells #[.int .u8 0, .int .u8 0, .int .u8 0, .int .u8 0, .int .u8 0, .int .u8 0, .int .u8 0, .int .u8 0, .int .u8 0, .int .u8 0, .int .u8 0, .int .u8 0, .int .u8 0, .int .u8 0, .int .u8 0, .int .u8 0, .int .u8 0, .int .u8 0, .int .u8 0, .int .u8 0, .int .u8 0, .int .u8 0, .int .u8 0, .int .u8 0, .int .u8 0, .int .u8 0, .int .u8 0, .int .u8 0, .int .u8 0, .int .u8 0, .int .u8 0, .int .u8 0] 24))
                  have HBa := Lib.hid (hbw.alloc (by omega) (.cells #[.int .u8 0, .int .u8 0, .int .u8 0, .int .u8 0, .int .u8 0, .int .u8 0, .int .u8 0, .int .u8 0, .int .u8 0, .int .u8 0, .int .u8 0, .int .u8 0, .int .u8 0, .int .u8 0, .int .u8 0, .int .u8 0, .int .u8 0, .int .u8 0, .int .u8 0, .int .u8 0, .int .u8 0, .int .u8 0, .int .u8 0, .int .u8 0, .int .u8 0, .int .u8 0, .int .u8 0, .int .u8 0, .int .u8 0, .int .u8 0, .int .u8 0, .int .u8 0] 24))
                  have HWa : Hid (∀ j, j < 8 → (wr.alloc (.cells #[.int .u8 0, .int .u8 0, .int .u8 0, .int .u8 0, .int .u8 0, .int .u8 0, .int .u8 0, .int .u8 0, .int .u8 0, .int .u8 0, .int .u8 0, .int .u8 0, .int .u8 0, .int .u8 0, .int .u8 0, .int .u8 0, .int .u8 0, .int .u8 0, .int .u8 0, .int .u8 0, .int .u8 0, .int .u8 0, .int .u8 0, .int .u8 0, .int .u8 0, .int .u8 0, .int .u8 0, .int .u8 0, .int .u8 0, .int .u8 0, .int .u8 0, .int .u8 0] 24)).cell? ⟨gv, ov + j, none⟩ = some (.int .u32 ((gw st j).toNat : Int))) := fun j hj => Lib.cell?_alloc_some _ (hwc j hj)
                  have HBo := Lib.hid hBo
                  have Hol := Lib.hid hol
                  have Hget := Lib.hid hget
                  clear hvc hbx r0 hbw hoe hol hget hwv hwc hst ro hBo R0 HB HSB hNN hl8 he
                  go_wp2
                  rw [HBo.out]
                  clear HBo
                  go_loopw [61] (fun q wx => ∃ i : Nat, (q = .int .i64 (i : Int) ∧ i ≤ 32) ∧ Row wx Bo 24 (enc8 (partB out i)) ∧ Row wx B0 24 (enc8 (List.replicate 32 0)) ∧ Hid (∀ j, j < 8 → wx.cell? ⟨gv, ov + j, none⟩ = some (.int .u32 ((gw st j).toNat : Int))) ∧ Below B0 w wx) (fun q _ => 32 - (intOf q).toNat)
                  case atStart => exact ⟨0, ⟨rfl, by omega⟩, Ro.out, R0a.out, HWa.out, HBa.out⟩
                  case round =>
                    clear Ro R0a HBa HWa
                    obtain ⟨i, ⟨rfl, hi32⟩, hro, hr0, hwa, hb⟩ := hrel
                    by_cases hi : i < 32
                    · obtain ⟨d, hd⟩ : ∃ d, i / 4 = d := ⟨_, rfl⟩
                      obtain ⟨r, hr⟩ : ∃ r, i % 4 = r := ⟨_, rfl⟩
                      have hdr : 4 * d + r = i := by omega
                      have hgj := Hget.out d r (by omega) (by omega)
                      rw [hdr] at hgj
                      have kv := hwa.out d (by omega)
                      have hd8 : d < 8 := by omega
                      obtain ⟨m, hm⟩ : ∃ m, 24 - 8 * r = m := ⟨_, rfl⟩
                      rw [hm] at hgj
                      have d1 : (i : Int) / 4 = (d : Int) := by omega
                      have d2 : (i : Int) % 4 = (r : Int) := by omega
                      have d3 : (i : Int).tdiv 4 = (d : Int) := by rw [Int.tdiv_eq_ediv_of_nonneg (by omega)]; exact d1
                      have d4 : (i : Int).tmod 4 = (r : Int) := by rw [Int.tmod_eq_emod_of_nonneg (by omega)]; exact d2
                      have s2 : IntKind.i64.wrap (8 * (r : Int)) = 8 * (r : Int) := IntWalk.i64_in _ (by omega)
                      have s1 : IntKind.i64.wrap (24 - 8 * (r : Int)) = (m : Int) := by rw [IntWalk.i64_in _ (by omega)]; omega
                      have s0 : IntKind.u64.wrap (m : Int) = (m : Int) := by rw [IntKind.wrap_u64]; omega
                      have s3 : (m : Int) ≤ 32 := by omega
                      obtain ⟨x, hx⟩ : ∃ x, gw st d = x := ⟨_, rfl⟩
                      rw [hx] at kv hgj
                      have hnat : (x.toNat : Int) / 2 ^ m = ((x.toNat / 2 ^ m : Nat) : Int) := by simp
                      obtain ⟨y, hy⟩ : ∃ y, x.toNat / 2 ^ m = y := ⟨_, rfl⟩
                      rw [hy] at hnat hgj
                      have hpl : (enc8 (partB out i)).length = 32 := by rw [enc8_len, partB_length _ _ (by rw [Hol.out]; omega), Hol.out]
                      have k0 : wr.cell? ⟨Bo, i, none⟩ = some ((enc8 (partB out i))[i]'(by omega)) := by rw [hro.cell i]; exact List.getElem?_eq_getElem _
                      have k1 : wr.frozen? ⟨Bo, i, none⟩ = false := hro.frozen i
                      obtain ⟨old, hold⟩ : ∃ old, (enc8 (partB out i))[i]'(by omega) = old := ⟨_, rfl⟩
                      rw [hold] at k0
                      have hset := hro.set i (.int .u8 ((y : Int) % 256))
                      have ev : Value.int .u8 ((y : Int) % 256) = .int .u8 ((UInt8.ofNat y).toNat : Int) := by simp
                      rw [ev, enc8_set, partB_set _ _ _ hgj, ← ev] at hset
                      have Rs := Lib.hid hset
                      have R0s := Lib.hid (hr0.other ⟨Bo, i, none⟩ (.int .u8 ((y : Int) % 256)) (by simp; omega))
                      have HBs := Lib.hid (below_setCell hb ⟨Bo, i, none⟩ (by simp; omega) (.int .u8 ((y : Int) % 256)))
                      have HWs : Hid (∀ j, j < 8 → (wr.setCell ⟨Bo, i, none⟩ (.int .u8 ((y : Int) % 256))).cell? ⟨gv, ov + j, none⟩ = some (.int .u32 ((gw st j).toNat : Int))) := fun j hj => by
                        rw [World.cell?_setCell_other _ _ _ _ (by simp <;> omega)]; exact hwa.out j hj
                      clear hro hr0 hb hwa hset ev hold hpl hgj hy hm hd hr hdr hx
                      go_wp2
                      go_roundw
                      case rel => exact ⟨i + 1, ⟨by go_num, by omega⟩, Rs.out, R0s.out, HWs.out, HBs.out⟩
                      case measure => simp [intOf]; omega
                    · obtain rfl : i = 32 := by omega
                      have Ro1 : Hid (Row wr Bo 24 (enc8 out)) := by
                        have e : partB out 32 = out := by have := partB_all out; rwa [Hol.out] at this
                        rwa [e] at hro
                      have R0 := Lib.hid hr0
                      have RR := Lib.hid (hr0.setRow (enc8 out))
                      have HBz := Lib.hid (below_setRow hb (Nat.le_refl B0) (enc8 out).toArray)
                      clear hro hr0 hb hwa
                      go_wp2_with (first | (refine Ro1.out.load rfl 24 (.tmp 9) rfl rfl _ _ Try.underlying24 (by rw [enc8_len, Hol.out]; kernel_rfl) ?_) | (refine R0.out.store (m := enc8 out) rfl 24 (.tmp 2) (.tmp 79) rfl rfl rfl (by rw [enc8_len, Hol.out]; kernel_rfl) (by rw [enc8_len, enc8_len, Hol.out, List.length_replicate]) (enc8_all _) ?_))
                      refine bodyPost_ret (v := .agg (enc8 out).toArray) (RR.out.result Try.results16 _ _ _ rfl Try.underlying24 (by rw [enc8_len, Hol.out]; kernel_rfl)) rfl ?_
                      exact ⟨rfl, by rw [hB0]; exact HBz.out⟩
/-- **the reference's Sum** -/
theorem rsum_any (v : Value) (L : List UInt8) (w : World) (hv : SB w v L) (hmax : L.length ≤ 100000) :
    Calls Try.prog 16 #[v] w fun e w' => e = .returned (.agg (enc8 (sumL L)).toArray) ∧ Below w.heap.size w w' :=
  rsum_gen v w L (pad L) hv rfl hmax (comp (pad L)) SW_s0.symm (fun _ => rfl) ((pad L).length / 64) (by have := pad_mod L; omega) _ rfl
end Go.Proofs.Ytkipnhhdlohnfaa

/- Mailbox. -/
import Derived.RangeFuncNested
import Derived.RangeFuncBound
import Derived.RangeFuncCalls
import Derived.RangeFuncLeaves
import Derived.Shelf.Abstract
import Derived.Shelf.RegionOpen
import Derived.WalkKit
import Derived.OwnWalkIn
import Derived.TacticsInMore
import Derived.LoopNIn
import Derived.LoopIn
import Derived.Outline
import Derived.Lib.Hide
import Derived.Lib.SliceRun
import Derived.IntWalk
import Derived.WalkLawsBesides
import Derived.WalkSpells
import Derived.Laws.BitsAllLaws
import Derived.Lib.ConvBytes
import Derived.Maps.AppendAt
import Derived.Lib.AppendStr
import Derived.Lib.SlBytesConst
import Derived.Laws.AppendOwnNone
import Derived.Laws.OwnMore
import Derived.Laws.BytesArg
import Derived.Deep.RegionHeld3
import Derived.BigQuiet
import Derived.Deep.RegionLaw
import Derived.Deep.QuietTactic
import Derived.Lib.OthersKept
import Derived.Test.YtlgodokgebjjaaaProg
import Derived.Deep.DeepFit
import Derived.Test.YtlgodokgebjjaaaPtE
set_option linter.unusedVariables false
set_option linter.unusedSimpArgs false
namespace Go.Proofs.Ytlgodokgebjjaaa
open Go Go.RowKit Go.Shelf
attribute [local go_sem] Oper.semAt_some

theorem kindN_zero (c : Nat) : (kindN c = 0 ∧ atomN c = false) ∨ (kindN c ≠ 0 ∧ atomN c = true) := by
  unfold kindN atomN
  cases wordN c <;> cases markN c <;> simp
set_option maxHeartbeats 1000000 in
set_option maxRecDepth 100000 in
/-- **bytealg.LastIndexByteString** -/
theorem lastIxS (s : ByteArray) (c : Nat) (hm : s.size ≤ maxLen) (w : World) :
    Calls Try.prog 98 #[.string s, .int .u8 (c : Int)] w fun e w' => e = .returned (.int .i64 (lastB (bl s) c)) ∧ w' = w := by
  unfold maxLen at hm
  obtain ⟨r, hr⟩ : ∃ r, lastB (bl s) c = r := ⟨_, rfl⟩
  have HR : Hid (lastN (bl s) c s.size = r) := by rw [← hr, lastB, bl_len]; rfl
  rw [hr]
  clear hr
  go_enter Try.func98, Try.ntmps98
  go_wp2
  go_loop [5] (fun i => ∃ k : Nat, (i = .int .i64 ((k : Int) - 1) ∧ k ≤ s.size) ∧ lastN (bl s) c k = r) (fun i => (intOf i + 1).toNat)
  case atStart => exact ⟨s.size, ⟨rfl, Nat.le_refl _⟩, HR.out⟩
  case round =>
    obtain ⟨k, ⟨rfl, hk⟩, hl⟩ := hrel
    cases k with
    | zero =>
      have hl' : r = -1 := by rw [← hl]; rfl
      subst hl'
      clear hl HR
      go_wp2
      go_ret
      exact ⟨rfl, rfl⟩
    | succ k =>
      have hg := bl_get s k (by omega)
      have HL := Lib.hid hl
      have e1 : (((k + 1 : Nat) : Int) - 1) = (k : Int) := by omega
      rw [e1]
      clear hl e1 HR
      by_cases hc : gb (bl s) k = c
      · have hcc : (s[k]'(by omega)).toNat = c := hg.trans hc
        have d1 : ((c : Int) == (c : Int)) = true := by simp
        have hl : r = (k : Int) := by rw [← HL.out, lastN, if_pos hc]
        subst hl
        clear hg hc HL
        go_wp2
        go_ret
        exact ⟨rfl, rfl⟩
      · obtain ⟨b, hb⟩ : ∃ b, gb (bl s) k = b := ⟨_, rfl⟩
        rw [hb] at hg hc
        have d1 : (b == c) = false := by simpa using hc
        have d2 : ((b : Int) == (c : Int)) = false := by simp; omega
        have hl : lastN (bl s) c k = r := by rw [← HL.out, lastN, if_neg (by rw [hb]; exact hc)]
        have HL := Lib.hid hl
        clear hb hl hc
        go_wp2
        go_round
        case rel => exact ⟨k, ⟨rfl, by omega⟩, HL.out⟩
        case measure => simp [intOf]
theorem lastIx (s : ByteArray) (c : Nat) (hm : s.size ≤ maxLen) (w : World) : Calls Try.prog 67 #[.string s, .int .u8 (c : Int)] w fun e w' => e = .returned (.int .i64 (lastB (bl s) c)) ∧ w' = w := by
  have HI := Lib.hid (fun w => lastIxS s c hm w)
  obtain ⟨r, hr⟩ : ∃ r, lastB (bl s) c = r := ⟨_, rfl⟩
  rw [hr] at HI ⊢
  clear hr hm
  go_enter Try.func67, Try.ntmps67
  go_wp2_with fail
  refine (HI.out _).mono ?_
  rintro e w' ⟨rfl, rfl⟩
  go_wp2
  go_ret
  exact ⟨rfl, rfl⟩
set_option maxRecDepth 100000 in
set_option maxHeartbeats 4000000 in
theorem mailbox_early (s : ByteArray) (hm : s.size ≤ maxLen) (h : lastB (bl s) 64 < 1 ∨ 64 < lastB (bl s) 64 ∨ domB ((bl s).drop ((lastB (bl s) 64).toNat + 1)) = false) (w : World) :
    Calls Try.prog 40 #[.string s] w fun e w' => e = .returned (.bool false) ∧ Below w.heap.size w w' := by
  have hl := fun w => lastIx s 64 hm w
  unfold maxLen at hm
  have hbd := lastB_bound (bl s) 64
  rw [bl_len] at hbd
  have hb0 := Boxed.new w 4 (.bool false)
  have hB0 : Below w.heap.size w (w.alloc (.cells #[.bool false] 4)) := (Below.refl _ w).alloc (Nat.le_refl _) _
  obtain ⟨a, ha⟩ : ∃ a, lastB (bl s) 64 = a := ⟨_, rfl⟩
  simp only [ha] at hl hbd h
  have HL : Hid (∀ w, Calls Try.prog 67 #[.string s, .int .u8 64] w fun e w' => e = .returned (.int .i64 a) ∧ w' = w) := hl
  clear hl
  by_cases h1 : a < 1
  · have d1 : decide (a < 1) = true := by simpa using h1
    have HB := Lib.hid hb0
    clear h ha hb0
    go_enter Try.func40, Try.ntmps40
    go_wp2_with fail
    refine (HL.out _).mono ?_
    rintro e w' ⟨rfl, rfl⟩
    go_wp2
    exact bodyPost_ret (v := .bool false) (results_cellB rfl _ rfl HB.out) rfl ⟨rfl, hB0⟩
  · by_cases h2 : 64 < a
    · have d1 : decide (a < 1) = false := by simpa using h1
      have d2 : decide (64 < a) = true := by simpa using h2
      have HB := Lib.hid hb0
      clear h ha hb0
      go_enter Try.func40, Try.ntmps40
      go_wp2_with fail
      refine (HL.out _).mono ?_
      rintro e w' ⟨rfl, rfl⟩
      go_wp2
      exact bodyPost_ret (v := .bool false) (results_cellB rfl _ rfl HB.out) rfl ⟨rfl, hB0⟩
    · have h3 : domB ((bl s).drop (a.toNat + 1)) = false := (h.resolve_left h1).resolve_left h2
      have d1 : decide (a < 1) = false := by simpa using h1
      have d2 : decide (64 < a) = false := by simpa using h2
      obtain ⟨n, rfl⟩ := Int.eq_ofNat_of_zero_le (show 0 ≤ a by omega)
      have hdm := fun w => domain_any (s.extract (n + 1) s.size) (by simp only [ByteArray.size_extract]; unfold maxLen; omega) w
      have he : domB (bl (s.extract (n + 1) s.size)) = false := by
        rw [bl_extract, List.take_of_length_le (by simp [bl_len])]; exact h3
      simp only [he] at hdm
      have HD := Lib.hid hdm
      have b1 : (0 : Int) ≤ (n : Int) + 1 := by omega
      have b2 : (n : Int) + 1 ≤ (s.size : Int) := by omega
      have b3 : ((n : Int) + 1).toNat = n + 1 := by omega
      have HB := Lib.hid hb0
      have HB0 := Lib.hid hB0
      clear hdm he h3 h ha hb0 hB0
      go_enter Try.func40, Try.ntmps40
      go_wp2_with fail
      refine (HL.out _).mono ?_
      rintro e w' ⟨rfl, rfl⟩
      go_wp2_with fail
      refine (HD.out _).mono ?_
      rintro e w1 ⟨rfl, hb1⟩
      have hbx : Boxed w1 w.heap.size 4 (.bool false) := (hb1.block _ (by simp)).trans HB.out
      have hc := hbx.cell
      have hf := hbx.frozen
      have HBX := Lib.hid hbx
      have HB2 := Lib.hid (HB0.out.trans (hb1.mono (by simp)))
      clear hbx hb1
      go_wp2
      exact bodyPost_ret (v := .bool false) (results_cellB rfl _ rfl (HBX.out.set _)) rfl ⟨rfl, HB2.out.setCell (p := ⟨_, 0, none⟩) (Nat.le_refl _) _⟩
set_option maxRecDepth 100000 in
set_option maxHeartbeats 4000000 in
theorem mailbox_late (s : ByteArray) (hm : s.size ≤ maxLen) (n : Nat) (hn : lastB (bl s) 64 = n) (h1 : 1 ≤ n) (h64 : n ≤ 64) (hd : domB ((bl s).drop (n + 1)) = true) (w : World) :
    Calls Try.prog 40 #[.string s] w fun e w' => e = .returned (.bool ((sp ((bl s).take n)).all nameB)) ∧ Below w.heap.size w w' := by
  have hl := fun w => lastIx s 64 hm w
  unfold maxLen at hm
  have hbd := lastB_bound (bl s) 64
  rw [bl_len] at hbd
  have hb0 := Boxed.new w 4 (.bool false)
  have hB0 : Below w.heap.size w (w.alloc (.cells #[.bool false] 4)) := (Below.refl _ w).alloc (Nat.le_refl _) _
  simp only [hn] at hl hbd
  have HL : Hid (∀ w, Calls Try.prog 67 #[.string s, .int .u8 64] w fun e w' => e = .returned (.int .i64 n) ∧ w' = w) := hl
  have hdm := fun w => domain_any (s.extract (n + 1) s.size) (by simp only [ByteArray.size_extract]; unfold maxLen; omega) w
  have he : domB (bl (s.extract (n + 1) s.size)) = true := by
    rw [bl_extract, List.take_of_length_le (by simp [bl_len])]; exact hd
  simp only [he] at hdm
  have HD := Lib.hid hdm
  have hsub : (s.extract 0 n).size ≤ maxLen := by simp only [ByteArray.size_extract]; unfold maxLen; omega
  have htk : (bl s).take n = bl (s.extract 0 n) := by rw [bl_extract, List.drop_zero, Nat.sub_zero]
  rw [htk]
  obtain ⟨r, hr⟩ : ∃ r, (sp (bl (s.extract 0 n))).all nameB = r := ⟨_, rfl⟩
  have HR := Lib.hid hr
  rw [hr]
  have d1 : decide ((n : Int) < 1) = false := by simp; omega
  have d1' : decide (n < 1) = false := by simp; omega
  have d2 : decide ((64 : Int) < (n : Int)) = false := by simp; omega
  have d2' : decide (64 < n) = false := by simp; omega
  have b0 : (0 : Int) ≤ (n : Int) := by omega
  have b1 : (0 : Int) ≤ (n : Int) + 1 := by omega
  have b2 : (n : Int) + 1 ≤ (s.size : Int) := by omega
  have b3 : ((n : Int) + 1).toNat = n + 1 := by omega
  have b4 : (n : Int) ≤ (s.size : Int) := by omega
  have b5 : n ≤ s.size := by omega
  have HB := Lib.hid hb0
  have HB0 := Lib.hid hB0
  have HS := Lib.hid hsub
  clear hdm he hd hn hb0 hB0 hr htk hl hsub
  refine (callsIn_wide (n := 0)).1 ?_
  refine callsIn_of_wp_marks Try.func40 rfl trivial ?_
  simp only [Try.ntmps40, List.size_toArray, List.length_cons, List.length_nil, Nat.reduceAdd, Nat.reduceSub, Array.replicate_succ, Array.replicate_zero, List.push_toArray, List.append_toArray, List.nil_append, List.cons_append]
  gi_wp2_with fail
  refine ⟨trivial, rfl, (callsIn_wide.2 (HL.out _)).mono ?_⟩
  rintro e w' ⟨rfl, rfl⟩
  gi_wp2_with fail
  refine ⟨trivial, rfl, (callsIn_wide.2 (HD.out _)).mono ?_⟩
  rintro e w1 ⟨rfl, hb1⟩
  gi_wp2_with fail
  refine ⟨trivial, rfl, (callsIn_wide.2 (between_any _ _)).mono ?_⟩
  rintro e w2 ⟨rfl, rfl⟩
  gi_wp2_with fail
  have hbx : Boxed w1 w.heap.size 4 (.bool false) := (hb1.block _ (by simp)).trans HB.out
  have hbz : Boxed (w1.alloc (.cells #[.string (s.extract 0 n)] 9)) w.heap.size 4 (.bool false) := hbx.alloc _
  have hlt : w.heap.size < w1.heap.size := hbx.lt
  have hB1 : Below w.heap.size w w1 := HB0.out.trans (hb1.mono (by simp))
  have hB2 : Below w.heap.size w (w1.alloc (.cells #[.string (s.extract 0 n)] 9)) := hB1.alloc hB1.size _
  have hbn := Boxed.new w1 9 (.string (s.extract 0 n))
  have hsz : (w1.alloc (.cells #[.string (s.extract 0 n)] 9)).heap.size = w1.heap.size + 1 := World.size_alloc _ _
  obtain ⟨q, hq⟩ : ∃ q, s.extract 0 n = q := ⟨_, rfl⟩
  obtain ⟨q2, hq2⟩ : ∃ q, s.extract (n + 1) s.size = q := ⟨_, rfl⟩
  rw [hq] at HR HS hbn hbz hB2 hsz ⊢
  rw [hq2]
  clear hq hq2 hb1 HD HL HB HB0 hB1 d1 d1' d2 d2' b0 b1 b2 b3 b4 b5 hbd hbx
  refine wpIn_rangeFunc_D (gf := 96) (lb := #[.pointer (some ⟨w1.heap.size, 0, none⟩)]) (n₀ := w.heap.size) rfl (enters_of Try.func96 (by kernel_rfl) rfl)
    (between1_seq w.heap.size w1.heap.size q HS.out w _ rfl hB2 (by omega) hbn) (fun x az _ _ h => by obtain ⟨a, rfl, _⟩ := h; rfl) (fun _ _ _ _ _ _ _ _ _ h _ _ => h) (by rw [hsz]; omega) (Below.refl _ _)
    (fun b => b = w.heap.size) (fun b h => by subst h; rw [hsz]; omega) (fun b h => by subst h; exact ⟨by omega, by rw [hsz]; omega, rfl⟩)
    (fun k D W => Boxed W w.heap.size 4 (.bool false) ∧ D w.heap.size ∧ Below w.heap.size w W ∧ w.heap.size ≤ W.heap.size ∧ ((sp (bl q)).take k).all nameB = true)
    (fun c k D W => c = .ret ∧ Boxed W w.heap.size 4 (.bool false) ∧ D w.heap.size ∧ Below w.heap.size w W ∧ w.heap.size ≤ W.heap.size ∧ r = false) ?stable ?stable2 ⟨hbz, rfl, hB2, by rw [hsz]; omega, rfl⟩
    (fun az => { tmps := #[.string s, undef, .pointer (some ⟨w.heap.size, 0, none⟩), .int .i64 n, az[0]?.getD undef, undef, .string s, .int .i64 n, .int .i64 n, .bool false, .bool false, .int .i64 n, .bool false, .bool false, .bool false, .string s, .int .i64 n, .int .i64 (n + 1), .string q2, .bool true, .bool false, .bool false, .string s, .int .i64 n, .string q, .func (.func 96) #[] #[.pointer (some ⟨w1.heap.size, 0, none⟩)], az[0]?.getD undef, undef, undef, undef, undef, undef, undef, undef, undef, undef, undef, undef, undef, undef], defers := [] }) ?assign ?body ?done ?stop
  case stable =>
    rintro k D W W' ⟨hb, hD, hB, hs, ha⟩ hk
    exact ⟨boxed_keepOn hb hk (.inr hD), hD, hB.trans (hk.below hs), Nat.le_trans hs hk.size, ha⟩
  case stable2 =>
    rintro c k D W W' ⟨rfl, hb, hD, hB, hs, ha⟩ hk
    exact ⟨rfl, boxed_keepOn hb hk (.inr hD), hD, hB.trans (hk.below hs), Nat.le_trans hs hk.size, ha⟩
  case assign =>
    rintro lp x az M W K ⟨a, rfl, hx, ha⟩ hK
    gi_wp2
    exact hK
  case body =>
    rintro lp k x az D M W hx ⟨a, rfl, hxa, ham⟩ ⟨hb, hD, hB, hs, ha⟩ hDb hMD
    have hc := hb.cell
    have hf := hb.frozen
    subst hxa
    have hsn := all_take_snoc nameB _ k _ hx
    have hno := all_not nameB _ k _ hx
    rw [ha, Bool.true_and] at hsn
    have HSN := Lib.hid hsn
    have HNO := Lib.hid hno
    have HM := Lib.hid hMD
    have HDb := Lib.hid hDb
    unfold maxLen at ham
    clear hsn hno hx ha hMD hDb
    gi_wp2
    gi_loopw [29, 5] (fun i x wr => ∃ j : Nat, (i = .int .i64 (j : Int) ∧ j ≤ a.size) ∧ ofN atomN ((bl a).take j) = true ∧ wr = W) (fun i _ _ => a.size - (intOf i).toNat)
    case atStart => exact ⟨0, ⟨rfl, Nat.zero_le _⟩, rfl, rfl⟩
    case round =>
      obtain ⟨j, ⟨rfl, hj⟩, hl, rfl⟩ := hrel
      have HL := Lib.hid hl
      clear hl
      by_cases hlt2 : j < a.size
      · have hg := bl_get a j hlt2
        have hsn2 := ofN_snoc atomN (bl a) j (by rw [bl_len]; exact hlt2)
        have hno2 := ofN_not atomN (bl a) j (by rw [bl_len]; exact hlt2)
        have hcs := kindN_zero (gb (bl a) j)
        have hkn := fun w => kind_any (gb (bl a) j) (by have := gb_lt (bl a) j; omega) w
        obtain ⟨c, hcc⟩ : ∃ c, gb (bl a) j = c := ⟨_, rfl⟩
        rw [hcc] at hg hsn2 hno2 hcs
        simp only [hcc] at hkn
        rw [HL.out, Bool.true_and] at hsn2
        obtain ⟨kd, hkd⟩ : ∃ kd, kindN c = kd := ⟨_, rfl⟩
        simp only [hkd] at hkn hcs
        have HK := Lib.hid hkn
        have HSN2 := Lib.hid hsn2
        have HNO2 := Lib.hid hno2
        clear hkn hsn2 hno2 hcc hkd
        rcases hcs with ⟨rfl, hw⟩ | ⟨hk2, hw⟩
        · have HW := Lib.hid hw
          have hname : nameB (bl a) = false := by unfold nameB; rw [HNO2.out hw, Bool.and_false]
          have HNM := Lib.hid hname
          clear hw hname
          gi_wp2_with fail
          refine ⟨trivial, rfl, (callsIn_wide.2 (HK.out _)).mono ?_⟩
          rintro e w' ⟨rfl, rfl⟩
          gi_wp2
          exact ⟨D, fun b h => ⟨Nat.lt_of_lt_of_le (HDb.out b h) (KeepsWalks.setCell w' _ _).size, fun hm => (HM.out b hm).2 h⟩, KeepOn.setCell w' _ _ (Nat.le_refl _) (fun h => (HM.out _ h).2 hD), rfl, hb.set _, hD, hB.setCell (p := ⟨w.heap.size, 0, none⟩) (Nat.le_refl _) _, Nat.le_trans hs (KeepsWalks.setCell w' _ _).size, by rw [← HR.out]; exact HNO.out HNM.out⟩
        · have HW := Lib.hid hw
          have e1 : (kd == 0) = false := by simpa using hk2
          clear hw hk2
          gi_wp2_with fail
          refine ⟨trivial, rfl, (callsIn_wide.2 (HK.out _)).mono ?_⟩
          rintro e w' ⟨rfl, rfl⟩
          gi_wp2
          go_roundw
          case rel => exact ⟨j + 1, ⟨by go_num, by omega⟩, by rw [HSN2.out, HW.out], by trivial⟩
          case measure => simp [intOf]; omega
      · have hall := ofN_all atomN (bl a) j HL.out (by rw [bl_len]; omega)
        have hnm : nameB (bl a) = !a.toList.isEmpty := by unfold nameB; rw [hall, Bool.and_true, toList_bl]
        have dlt : decide (j < a.size) = false := by simpa using hlt2
        obtain ⟨em, hem⟩ : ∃ em, a.toList.isEmpty = em := ⟨_, rfl⟩
        have hem2 : (a.toList == []) = em := by rw [← hem]; cases a.toList <;> rfl
        rw [hem] at hnm
        have HNM := Lib.hid hnm
        clear hnm hall
        cases em with
        | true =>
          gi_wp2
          exact ⟨D, fun b h => ⟨Nat.lt_of_lt_of_le (HDb.out b h) (KeepsWalks.setCell _ _ _).size, fun hm => (HM.out b hm).2 h⟩, KeepOn.setCell _ _ _ (Nat.le_refl _) (fun h => (HM.out _ h).2 hD), rfl, hb.set _, hD, hB.setCell (p := ⟨w.heap.size, 0, none⟩) (Nat.le_refl _) _, Nat.le_trans hs (KeepsWalks.setCell _ _ _).size, by rw [← HR.out]; exact HNO.out HNM.out⟩
        | false =>
          gi_wp2
          exact ⟨D, fun b h => ⟨HDb.out b h, fun hm => (HM.out b hm).2 h⟩, KeepOn.refl _ _ _, hb, hD, hB, hs, by rw [HSN.out, HNM.out]; rfl⟩
  case done =>
    rintro dk D W hdk ⟨hb, hD, hB, hs, ha⟩ hK hDk
    rw [List.take_length] at ha
    have hd : r = true := by rw [← HR.out, ha]
    subst hd
    have hdk2 : w.heap.size < dk := by rw [hsz] at hdk; omega
    have hc := hb.cell
    have hf := hb.frozen
    clear ha hdk
    have hK2 : (W.setCell ⟨w.heap.size, 0, none⟩ (.bool true)).heap[dk]? = some (.deferred (some [])) := (Below.heap_setCell W ⟨w.heap.size, 0, none⟩ (.bool true) dk (by simp; omega)).trans hK
    gi_wp2
    refine ⟨by simp, .inl ⟨_, _, rfl, run_takeDeferred hK2, ?_⟩⟩
    refine ⟨_, results_cellB rfl _ rfl (b := true) ?_, rfl, ?_⟩
    · exact (World.putObj_heap_other (by omega)).trans (hb.set _)
    · exact (hB.setCell (p := ⟨w.heap.size, 0, none⟩) (Nat.le_refl _) _).trans (belowK_b (w := w) (Nat.le_refl _) _ dk _ _ (by omega) hK2 rfl rfl)
  case stop =>
    rintro dk c k D W hdk ⟨rfl, hb, hD, hB, hs, hr⟩ hK hDk
    subst hr
    have hdk2 : w.heap.size < dk := by rw [hsz] at hdk; omega
    gi_wp2
    refine ⟨by simp, .inl ⟨_, _, rfl, run_takeDeferred hK, ?_⟩⟩
    refine ⟨_, results_cellB rfl _ rfl (b := false) ?_, rfl, ?_⟩
    · exact (World.putObj_heap_other (by omega)).trans hb
    · exact hB.trans (belowK_b (w := w) (Nat.le_refl _) W dk _ _ (by omega) hK rfl rfl)
/-- **Mailbox** -/
theorem mailbox_any (s : ByteArray) (hm : s.size ≤ maxLen) (w : World) :
    Calls Try.prog 40 #[.string s] w fun e w' => e = .returned (.bool (mailB (bl s))) ∧ Below w.heap.size w w' := by
  by_cases h1 : lastB (bl s) 64 < 1
  · have e : mailB (bl s) = false := by unfold mailB; rw [show decide (1 ≤ lastB (bl s) 64) = false by simpa using h1]; rfl
    rw [e]; exact mailbox_early s hm (.inl h1) w
  · by_cases h2 : 64 < lastB (bl s) 64
    · have e : mailB (bl s) = false := by unfold mailB; rw [show decide (lastB (bl s) 64 ≤ 64) = false by simpa using h2, Bool.and_false]; rfl
      rw [e]; exact mailbox_early s hm (.inr (.inl h2)) w
    · obtain ⟨n, hn⟩ : ∃ n : Nat, lastB (bl s) 64 = n := ⟨(lastB (bl s) 64).toNat, by omega⟩
      have e : mailB (bl s) = (domB ((bl s).drop (n + 1)) && (sp ((bl s).take n)).all nameB) := by
        unfold mailB
        rw [hn, show decide ((1 : Int) ≤ (n : Int)) = true by simp; omega, show decide ((n : Int) ≤ 64) = true by simp; omega]
        simp
      cases hd : domB ((bl s).drop (n + 1)) with
      | false => rw [e, hd, Bool.false_and]; exact mailbox_early s hm (.inr (.inr (by rw [hn]; exact hd))) w
      | true => rw [e, hd, Bool.true_and]; exact mailbox_late s hm n hn (by omega) (by omega) hd w
end Go.Proofs.Ytlgodokgebjjaaa

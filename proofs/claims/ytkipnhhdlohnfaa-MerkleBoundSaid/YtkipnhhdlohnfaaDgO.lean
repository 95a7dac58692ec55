/- The reference's Parse and Show. -/
import Derived.RangeFuncNested
import Derived.RangeFuncBound
import Derived.RangeFuncCalls
import Derived.RangeFuncLeaves
import Derived.Shelf.Abstract
import Derived.Shelf.RegionOpen
import Derived.WalkKit
import Derived.OwnWalkIn
import Derived.TacticsInMore
import Derived.LoopNIn
import Derived.LoopIn
import Derived.Outline
import Derived.Lib.Hide
import Derived.Lib.SliceRun
import Derived.IntWalk
import Derived.WalkLawsBesides
import Derived.WalkSpells
import Derived.Laws.BitsAllLaws
import Derived.Lib.ConvBytes
import Derived.Maps.AppendAt
import Derived.Lib.AppendStr
import Derived.Lib.SlBytesConst
import Derived.Laws.AppendOwnNone
import Derived.Laws.OwnMore
import Derived.Laws.BytesArg
import Derived.Deep.RegionHeld3
import Derived.BigQuiet
import Derived.Deep.RegionLaw
import Derived.Deep.QuietTactic
import Derived.Lib.OthersKept
import Derived.Test.YtkipnhhdlohnfaaProg
import Derived.Deep.DeepFit
import Derived.Test.YtkipnhhdlohnfaaDgN
set_option linter.unusedVariables false
set_option linter.unusedSimpArgs false
namespace Go.Proofs.Ytkipnhhdlohnfaa
open Go Go.RowKit Go.Shelf

set_option maxRecDepth 100000 in
theorem rparse_short (S : ByteArray) (hS : S.size ≠ 64) (w : World) :
    Calls Try.prog 30 #[.string S] w fun e w' => e = .returned (.tuple #[.agg Z32.toArray, .bool false]) ∧ Below w.heap.size w w' := by
  have hne : ((S.size : Int) == 64) = false := by simp; omega
  obtain ⟨wa, B, hwa, hB, hsz, r0, r1, hb⟩ := two_new w
  subst hwa
  have R0 := Lib.hid r0
  have R1 := Lib.hid r1
  have HB := Lib.hid hb
  have RR := Lib.hid (r0.setRow Z32)
  have HBz := Lib.hid (below_setRow hb (Nat.le_refl B) Z32.toArray)
  clear r0 r1 hb
  go_enter Try.func30, Try.ntmps30
  go_wp2_with (first | (refine R1.out.load rfl 24 (.tmp 4) rfl rfl _ _ Try.underlying24 (by kernel_rfl) ?_) | (refine R0.out.store (m := Z32) rfl 24 (.tmp 2) (.tmp 11) rfl rfl rfl (by kernel_rfl) rfl (enc8_all _) ?_))
  refine bodyPost_ret (v := .tuple #[.agg Z32.toArray, .bool false]) (RR.out.result2 Try.results30 _ _ _ rfl rfl Try.underlying24 (by kernel_rfl)) rfl ?_
  exact ⟨rfl, by rw [hB]; exact HBz.out⟩

set_option maxHeartbeats 1000000 in
set_option maxRecDepth 100000 in
theorem rparse_long (S : ByteArray) (l : List UInt8) (hS : S.data.toList = l) (hl : l.length = 64) (w : World) :
    Calls Try.prog 30 #[.string S] w fun e w' => e = .returned (.tuple #[.agg (enc8 (parseV l)).toArray, .bool (okL l)]) ∧ Below w.heap.size w w' := by
  have hs : S.size = 64 := by rw [← hl, ← hS]; rfl
  have HS := Lib.hid hS
  obtain ⟨wa, B, hwa, hB, hsz, r0, r1, hb⟩ := two_new w
  have R0 := Lib.hid r0
  have R1 : Hid (Row wa (B + 1) 24 (enc8 (hp l 0))) := by unfold Hid; rw [hp_zero]; exact r1
  have HB := Lib.hid hb
  have HW := Lib.hid hwa
  have Hsz := Lib.hid hsz
  clear r0 r1 hb hwa hS hsz
  go_enter Try.func30, Try.ntmps30
  go_wp2_with fail
  simp only [← HW.out, Hsz.out]
  go_loopw [12] (fun q wx => ∃ i : Nat, (q = .int .i64 (i : Int) ∧ i ≤ 32 ∧ ∀ k, k < 2 * i → dg l k < 16) ∧ Row wx (B + 1) 24 (enc8 (hp l (2 * i))) ∧ Row wx B 24 Z32 ∧ Below B w wx) (fun q wx => 32 - (intOf q).toNat)
  case atStart => exact ⟨0, ⟨rfl, by omega, fun k hk => by omega⟩, R1.out, R0.out, HB.out⟩
  case round =>
    obtain ⟨i, ⟨rfl, hi, hok⟩, hr1, hr0, hb⟩ := hrel
    clear R1 R0 HB
    by_cases h32 : i < 32
    · obtain ⟨e, he⟩ : ∃ e, 2 * i = e := ⟨_, rfl⟩
      obtain ⟨f, hf⟩ : ∃ f, e + 1 = f := ⟨_, rfl⟩
      have m1 : IntKind.i64.wrap (2 * (i : Int)) = (e : Int) := by rw [IntWalk.i64_in _ (by omega)]; omega
      have m2 : IntKind.i64.wrap ((e : Int) + 1) = (f : Int) := by rw [IntWalk.i64_in _ (by omega)]; omega
      have kx := fun w => idx_string S l HS.out e (by omega) w
      have ky := fun w => idx_string S l HS.out f (by omega) w
      obtain ⟨n, hn⟩ : ∃ n, ((l[e]?).getD 0).toNat = n := ⟨_, rfl⟩
      have hn256 : n < 256 := by rw [← hn]; exact UInt8.toNat_lt _
      have hdg : dg l e = digN n := by unfold dg gb; rw [hn]
      obtain ⟨m, hm⟩ : ∃ m, ((l[f]?).getD 0).toNat = m := ⟨_, rfl⟩
      have hm256 : m < 256 := by rw [← hm]; exact UInt8.toNat_lt _
      have hdm : dg l f = digN m := by unfold dg gb; rw [hm]
      rw [hn] at kx
      rw [hm] at ky
      have hx := fun w => rdigit_any n hn256 w
      have hy := fun w => rdigit_any m hm256 w
      have ha := digN_le n
      have hbb := digN_le m
      obtain ⟨a, hae⟩ : ∃ a, digN n = a := ⟨_, rfl⟩
      obtain ⟨b, hbe⟩ : ∃ b, digN m = b := ⟨_, rfl⟩
      rw [hae] at hx hdg ha
      rw [hbe] at hy hdm hbb
      have Hx := Lib.hid hx
      have Hy := Lib.hid hy
      clear hae hbe hn hm hx hy hn256 hm256
      by_cases hd : a < 16 ∧ b < 16
      · obtain ⟨hd1, hd2⟩ := hd
        have hv2 : hpv l (2 * (i + 1)) i = 16 * a + b := by
          unfold hpv
          rw [if_pos (by omega), he, hf, hdg, hdm]
        have hv3 : ∀ k, k < 32 → k ≠ i → hpv l (2 * i) k = hpv l (2 * (i + 1)) k := by
          intro k _ hk
          unfold hpv
          by_cases h1 : 2 * k + 2 ≤ 2 * i
          · rw [if_pos h1, if_pos (by omega)]
          · rw [if_neg h1, if_neg (by omega), if_neg (by omega), if_neg (by omega)]
        have hupd := hp_upd l (2 * i) (2 * (i + 1)) i h32 hv3 (by omega)
        have hlen : (enc8 (hp l (2 * i))).length = 32 := by rw [enc8_len, hp_length]
        have k0 : wr.cell? ⟨B + 1, i, none⟩ = some ((enc8 (hp l (2 * i)))[i]'(by omega)) := by rw [hr1.cell i]; exact List.getElem?_eq_getElem _
        obtain ⟨old, hold⟩ : ∃ old, (enc8 (hp l (2 * i)))[i]'(by omega) = old := ⟨_, rfl⟩
        rw [hold] at k0
        have k1 : wr.frozen? ⟨B + 1, i, none⟩ = false := hr1.frozen i
        rw [hv2] at hupd
        obtain ⟨nv, hnv⟩ : ∃ nv, 16 * a + b = nv := ⟨_, rfl⟩
        have s1 : 16 * (a : Int) % 4294967296 = ((16 * a : Nat) : Int) := by omega
        have s2 : (16 * (a : Int) + (b : Int)) % 4294967296 = (nv : Int) := by omega
        have s3 : (nv : Int) % 256 = (nv : Int) := by omega
        have s4 : (((16 * a : Nat) : Int) + (b : Int)) % 4294967296 = (nv : Int) := by omega
        have s5 : IntKind.u32.wrap (16 * (a : Int)) = ((16 * a : Nat) : Int) := by rw [IntKind.wrap_u32]; omega
        have d1 : decide (15 < (a : Int)) = false := by simp; omega
        have d2 : decide (15 < (b : Int)) = false := by simp; omega
        have nve : ((nv : Nat) : Int) = 16 * (a : Int) + (b : Int) := by omega
        have Q1 : Hid (∀ q, Row ((wr.drewN q).setCell ⟨B + 1, i, none⟩ (.int .u8 (16 * (a : Int) + (b : Int)))) (B + 1) 24 (enc8 (hp l (2 * (i + 1))))) := fun q => by
          rw [← hupd, ← nve, ← hnv]; exact Row.set (W := wr.drewN q) hr1 i _
        have Q0 : Hid (∀ q, Row ((wr.drewN q).setCell ⟨B + 1, i, none⟩ (.int .u8 (16 * (a : Int) + (b : Int)))) B 24 Z32) := fun q => Row.other (W := wr.drewN q) hr0 ⟨B + 1, i, none⟩ _ (by simp)
        have QB : Hid (∀ q, Below B w ((wr.drewN q).setCell ⟨B + 1, i, none⟩ (.int .u8 (16 * (a : Int) + (b : Int))))) := fun q => below_setCell (below_drewN hb q) ⟨B + 1, i, none⟩ (by simp) _
        have Hok : Hid (∀ k, k < 2 * (i + 1) → dg l k < 16) := by
          intro k hk
          by_cases h : k < 2 * i
          · exact hok k h
          · by_cases h2 : k = e
            · rw [h2, hdg]; exact hd1
            · rw [show k = f by omega, hdm]; exact hd2
        have He := Lib.hid he
        have Hf := Lib.hid hf
        clear hr1 hr0 hb hok hupd hv2 hv3 hlen hold hdg hdm hnv he hf
        go_wp2
        go_quiet (first | (go_at_call 50; first | with_reducible exact quiet_r (Hx.out _) | with_reducible exact quiet_r (Hy.out _)))
        go_wp2
        go_roundw
        case rel => exact ⟨i + 1, ⟨by go_num, by omega, Hok.out⟩, Q1.out _, Q0.out _, QB.out _⟩
        case measure => simp [intOf]; omega
      · have hno : okL l = false := by
          rw [Bool.eq_false_iff]; intro h
          have h1 := ((okL_iff l).1 h).2 e (by omega)
          have h2 := ((okL_iff l).1 h).2 f (by omega)
          rw [hdg] at h1
          rw [hdm] at h2
          exact hd ⟨h1, h2⟩
        have Hno := Lib.hid hno
        have Q0 : Hid (∀ q, Row (wr.drewN q) B 24 Z32) := fun q => hr0
        have RR : Hid (∀ q, Row ((wr.drewN q).setRow B Z32.toArray) B 24 Z32) := fun q => Row.setRow (W := wr.drewN q) hr0 Z32
        have HBz : Hid (∀ q, Below B w ((wr.drewN q).setRow B Z32.toArray)) := fun q => below_setRow (below_drewN hb q) (Nat.le_refl B) Z32.toArray
        clear hr1 hr0 hb hok hno hdg hdm he hf
        by_cases ha16 : 15 < a
        · have d1 : decide (15 < (a : Int)) = true := by simp; omega
          clear hd
          go_wp2
          go_quiet (first | (go_at_call 50; first | with_reducible exact quiet_r (Hx.out _) | with_reducible exact quiet_r (Hy.out _)))
          go_wp2_with (refine Row.store (Q0.out _) (m := Z32) rfl 24 (.tmp 2) (.tmp 32) rfl rfl rfl (by kernel_rfl) rfl (enc8_all _) ?_)
          refine bodyPost_ret (v := .tuple #[.agg Z32.toArray, .bool false]) (Row.result2 (RR.out _) Try.results30 _ _ _ rfl rfl Try.underlying24 (by kernel_rfl)) rfl ?_
          rw [parseV_no Hno.out, Hno.out, hB]
          exact ⟨rfl, HBz.out _⟩
        · have d1 : decide (15 < (a : Int)) = false := by simp; omega
          have d2 : decide (15 < (b : Int)) = true := by simp; omega
          clear hd
          go_wp2
          go_quiet (first | (go_at_call 50; first | with_reducible exact quiet_r (Hx.out _) | with_reducible exact quiet_r (Hy.out _)))
          go_wp2_with (refine Row.store (Q0.out _) (m := Z32) rfl 24 (.tmp 2) (.tmp 32) rfl rfl rfl (by kernel_rfl) rfl (enc8_all _) ?_)
          refine bodyPost_ret (v := .tuple #[.agg Z32.toArray, .bool false]) (Row.result2 (RR.out _) Try.results30 _ _ _ rfl rfl Try.underlying24 (by kernel_rfl)) rfl ?_
          rw [parseV_no Hno.out, Hno.out, hB]
          exact ⟨rfl, HBz.out _⟩
    · obtain rfl : i = 32 := by omega
      have hyes : okL l = true := (okL_iff l).2 ⟨hl, hok⟩
      have R1 := Lib.hid hr1
      have R0 := Lib.hid hr0
      rw [show 2 * 32 = 64 from rfl] at R1
      have RR := Lib.hid (hr0.setRow (enc8 (hp l 64)))
      have HBz := Lib.hid (below_setRow hb (Nat.le_refl B) (enc8 (hp l 64)).toArray)
      obtain ⟨out, hout⟩ : ∃ out, hp l 64 = out := ⟨_, rfl⟩
      have hol : out.length = 32 := by rw [← hout, hp_length]
      have Hol := Lib.hid hol
      have Hres := Lib.hid ((parseV_ok hyes).trans hout)
      have Hyes := Lib.hid hyes
      rw [hout] at R1 RR HBz
      clear hr1 hr0 hb hok hyes hout hol
      go_wp2_with (first | (refine R1.out.load rfl 24 (.tmp 4) rfl rfl _ _ Try.underlying24 (by rw [enc8_len, Hol.out]; kernel_rfl) ?_) | (refine R0.out.store (m := enc8 out) rfl 24 (.tmp 2) (.tmp 41) rfl rfl rfl (by rw [enc8_len, Hol.out]; kernel_rfl) (by rw [enc8_len, enc8_len, Hol.out, List.length_replicate]) (enc8_all _) ?_))
      refine bodyPost_ret (v := .tuple #[.agg (enc8 out).toArray, .bool true]) (RR.out.result2 Try.results30 _ _ _ rfl rfl Try.underlying24 (by rw [enc8_len, Hol.out]; kernel_rfl)) rfl ?_
      rw [Hres.out, Hyes.out, hB]
      exact ⟨rfl, HBz.out⟩
/-- **the reference's Parse** -/
theorem rparse_any (S : ByteArray) (l : List UInt8) (hS : S.data.toList = l) (w : World) :
    Calls Try.prog 30 #[.string S] w fun e w' => e = .returned (.tuple #[.agg (enc8 (parseV l)).toArray, .bool (okL l)]) ∧ Below w.heap.size w w' := by
  by_cases h : l.length = 64
  · exact rparse_long S l hS h w
  · have hno : okL l = false := by
      rw [Bool.eq_false_iff]; intro h2
      exact h ((okL_iff l).1 h2).1
    rw [parseV_no hno, hno]
    exact rparse_short S (by rw [← hS] at h; exact h) w

/-- a digit's sign, cut out of the digits -/
theorem cut_sgn : ∀ n, n < 16 → (⟨#[48, 49, 50, 51, 52, 53, 54, 55, 56, 57, 97, 98, 99, 100, 101, 102]⟩ : ByteArray).extract n (n + 1) = ⟨#[sgn n]⟩ := by decide +kernel

set_option maxHeartbeats 1000000 in
set_option maxRecDepth 100000 in
/-- **the reference's Show** -/
theorem rshow_any (h : List UInt8) (hl : h.length = 32) (w : World) :
    Calls Try.prog 32 #[.agg (enc8 h).toArray] w fun e w' => e = .returned (.string ⟨(showL h).toArray⟩) ∧ Below w.heap.size w w' := by
  obtain ⟨arr, harr⟩ : ∃ arr, enc8 h = arr := ⟨_, rfl⟩
  have Harr := Lib.hid harr
  rw [harr]
  have hal : arr.length = 32 := by rw [← harr, enc8_len, hl]
  have Hal := Lib.hid hal
  have hr := Lib.hid (Row.new w arr.toArray 24)
  have hb := Lib.hid ((Below.refl _ w).alloc (Nat.le_refl _) (.cells arr.toArray 24))
  clear harr hal
  go_enter Try.func32, Try.ntmps32
  go_wp2_with (refine Row.load hr.out rfl 24 (.tmp 1) rfl rfl _ _ Try.underlying24 (by rw [show arr.toArray.toList = arr from rfl, Hal.out]; kernel_rfl) ?_)
  go_loopw [3, 7] (fun s q wr => ∃ i : Nat, (q = .int .i64 (i : Int) ∧ i ≤ 32) ∧ (s = .string ⟨(showL (h.take i)).toArray⟩) ∧ Below w.heap.size w wr) (fun s q _ => 32 - (intOf q).toNat)
  case atStart => exact ⟨0, ⟨rfl, by omega⟩, rfl, hb.out⟩
  case round =>
    clear hb
    obtain ⟨i, ⟨rfl, hi⟩, rfl, hb⟩ := hrel
    by_cases hlt : i < 32
    · have htk : h.take (i + 1) = h.take i ++ [h[i]'(by omega)] := List.take_succ_eq_append_getElem (by omega)
      obtain ⟨c, hc⟩ : ∃ c, h[i]'(by omega) = c := ⟨_, rfl⟩
      rw [hc] at htk
      have hget : arr[i]? = some (.int .u8 (c.toNat : Int)) := by
        rw [← Harr.out, enc8_get h i (by omega)]
        unfold gb
        rw [List.getElem?_eq_getElem (by omega), hc]; rfl
      have kx := fun w => run_index_array 24 5 32 arr i _ Try.underlying24 Try.sizeOf5 Try.isAgg5 Hal.out hget w
      obtain ⟨n, hn⟩ : ∃ n, c.toNat = n := ⟨_, rfl⟩
      have hn256 : n < 256 := by rw [← hn]; exact c.toNat_lt
      rw [hn] at kx
      obtain ⟨q, hq⟩ : ∃ q, n / 16 = q := ⟨_, rfl⟩
      obtain ⟨r, hr⟩ : ∃ r, n % 16 = r := ⟨_, rfl⟩
      have hd : (n : Int) / 16 = (q : Int) := by omega
      have hm : (n : Int) % 16 = (r : Int) := by omega
      have hq16 : q < 16 := by omega
      have hr16 : r < 16 := by omega
      have ks : ∀ a : Nat, a < 16 → ∀ w, (Instr.slice 9 (.string ⟨#[48, 49, 50, 51, 52, 53, 54, 55, 56, 57, 97, 98, 99, 100, 101, 102]⟩) (some (.int .u8 (a : Int))) (some (.int .u8 ((a : Int) + 1))) none).run Try.prog w = .ok (.string ⟨#[sgn a]⟩) w := by
        intro a ha w
        have := run_slice_string (P := Try.prog) w 9 ⟨#[48, 49, 50, 51, 52, 53, 54, 55, 56, 57, 97, 98, 99, 100, 101, 102]⟩ .u8 .u8 (a : Int) ((a : Int) + 1) Try.underlying9 (by omega) (by omega) (by show _ ≤ ((16 : Nat) : Int); omega)
        rw [this, show ((a : Int) + 1).toNat = a + 1 by omega, Int.toNat_natCast, cut_sgn a ha]
      have kq := fun w => ks q hq16 w
      have kr := fun w => ks r hr16 w
      have w1 : ((q : Int) + 1) % 256 = (q : Int) + 1 := by omega
      have w2 : ((r : Int) + 1) % 256 = (r : Int) + 1 := by omega
      have tm : (n : Int).tmod 16 = (r : Int) := by rw [Int.tmod_eq_emod_of_nonneg (by omega)]; exact hm
      have w3 : IntKind.u8.wrap (q : Int) = (q : Int) := by rw [IntKind.wrap_u8]; omega
      have w4 : IntKind.u8.wrap (r : Int) = (r : Int) := by rw [IntKind.wrap_u8]; omega
      have w5 : IntKind.u8.wrap ((q : Int) + 1) = (q : Int) + 1 := by rw [IntKind.wrap_u8]; omega
      have w6 : IntKind.u8.wrap ((r : Int) + 1) = (r : Int) + 1 := by rw [IntKind.wrap_u8]; omega
      have hsh : showL (h.take (i + 1)) = showL (h.take i) ++ [sgn q] ++ [sgn r] := by rw [htk, showL_snoc, hn, hq, hr]
      obtain ⟨sq, hsq⟩ : ∃ x, sgn q = x := ⟨_, rfl⟩
      obtain ⟨sr, hsr⟩ : ∃ x, sgn r = x := ⟨_, rfl⟩
      rw [hsq] at kq hsh
      rw [hsr] at kr hsh
      have Hsh := Lib.hid hsh
      have Hb := Lib.hid hb
      obtain ⟨X, hX⟩ : ∃ X : ByteArray, (⟨(showL (h.take i)).toArray⟩ : ByteArray) = X := ⟨_, rfl⟩
      have hXs : X.size ≤ 64 := by
        rw [← hX]
        show (showL (h.take i)).toArray.size ≤ 64
        rw [List.size_toArray, showL_length, List.length_take]; omega
      have ka : ∀ w, (Op.stringOp .add X ((⟨#[sq]⟩ : ByteArray) ++ ⟨#[sr]⟩)).run Try.prog w = .ok (.string (X ++ ((⟨#[sq]⟩ : ByteArray) ++ ⟨#[sr]⟩))) w := fun w => by
        refine run_string_add_sum w _ _ ?_
        have : ((⟨#[sq]⟩ : ByteArray) ++ ⟨#[sr]⟩).size = 2 := by simp [ByteArray.size_append]; rfl
        omega
      rw [hX]
      have HX := Lib.hid hX
      clear hX hXs
      clear hb hsh htk hc hget hn hq hr hsq hsr ks
      go_wp2_with fail
      go_quiet (fail)
      go_wp2
      go_roundw
      case rel =>
        refine ⟨i + 1, ⟨by go_num, by omega⟩, ?_, below_drewN Hb.out _⟩
        rw [Hsh.out, ← HX.out]
        congr 1
        apply ByteArray.ext
        simp [ByteArray.data_append]
      case measure => simp [intOf]; omega
    · obtain rfl : i = 32 := by omega
      rw [List.take_of_length_le (by omega)]
      have Hb := Lib.hid hb
      clear hb
      go_wp2
      go_ret
      exact ⟨rfl, Hb.out⟩
end Go.Proofs.Ytkipnhhdlohnfaa

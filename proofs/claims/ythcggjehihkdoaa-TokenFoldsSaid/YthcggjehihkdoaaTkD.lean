/- the reference's Words. -/
import Derived.RangeFuncNested
import Derived.RangeFuncBound
import Derived.RangeFuncCalls
import Derived.RangeFuncLeaves
import Derived.Shelf.Abstract
import Derived.Shelf.RegionOpen
import Derived.WalkKit
import Derived.OwnWalkIn
import Derived.TacticsInMore
import Derived.LoopNIn
import Derived.LoopIn
import Derived.Outline
import Derived.Lib.Hide
import Derived.Lib.SliceRun
import Derived.IntWalk
import Derived.WalkLawsBesides
import Derived.WalkSpells
import Derived.Laws.BitsAllLaws
import Derived.Lib.ConvBytes
import Derived.Maps.AppendAt
import Derived.Lib.AppendStr
import Derived.Lib.SlBytesConst
import Derived.Laws.AppendOwnNone
import Derived.Laws.OwnMore
import Derived.Laws.BytesArg
import Derived.Deep.RegionHeld3
import Derived.BigQuiet
import Derived.Deep.RegionLaw
import Derived.Deep.QuietTactic
import Derived.Lib.OthersKept
import Derived.Test.YthcggjehihkdoaaProg
import Derived.Deep.DeepFit
import Derived.Test.YthcggjehihkdoaaTkC
set_option linter.unusedVariables false
set_option linter.unusedSimpArgs false
namespace Go.Proofs.Ythcggjehihkdoaa
open Go Go.RowKit Go.Shelf
open Go.Proofs (encStr)

set_option maxHeartbeats 8000000 in
set_option maxRecDepth 100000 in
/-- **the reference's Words** -/
theorem qwords_any (v : Value) (l : List UInt8) (w : World) (hlen : l.length ≤ 100000) (h : SB w v l) :
    Calls Try.prog 26 #[v] w fun e w' => ∃ u, e = .returned u ∧ OT w' w.heap.size u (words l) ∧ Below w.heap.size w w' := by
  have h' := h
  obtain ⟨A, c, rfl, -, hcm, -⟩ := h.form
  obtain ⟨n, hn⟩ : ∃ n, l.length = n := ⟨_, rfl⟩
  obtain ⟨B, hB⟩ : ∃ B, w.heap.size = B := ⟨_, rfl⟩
  have HS : Hid (∀ wr, Below B w wr → SB wr (.slice A n c) l) := fun wr hb => by rw [← hn]; exact h'.below (hB ▸ hb)
  have hq0 : Hid (([] : List (List UInt8)) ++ rd (bl ⟨#[]⟩) ((l ++ [0]).drop 0) = words l) := (words_rd l).symm
  rw [hn] at hlen ⊢
  have HN := Lib.hid hn
  have hgl := fun j => gb_lt l j
  clear h h' hn
  rw [hB]
  go_enter Try.func26, Try.ntmps26
  go_wp2
  go_loopw [5, 4, 3] (fun i s x wr => ∃ (k : Nat) (u : Value) (t : ByteArray) (o : List (List UInt8)), (i = .int .i64 (k : Int) ∧ k ≤ n + 1) ∧ s = .string t ∧ x = u ∧ OT wr B u o ∧ Hid (o ++ rd (bl t) ((l ++ [0]).drop k) = words l) ∧ t.size ≤ k ∧ o.length ≤ k ∧ Mine B w wr) (fun i _ _ _ => n + 1 - (intOf i).toNat)
  case atStart => exact ⟨0, _, ⟨#[]⟩, [], ⟨rfl, Nat.zero_le _⟩, rfl, rfl, OT.nil _ _, hq0, Nat.zero_le _, Nat.zero_le _, by rw [← hB]; exact Mine.refl w⟩
  case round =>
    clear hq0
    obtain ⟨k, u, t, o, ⟨rfl, hk⟩, rfl, rfl, hown, hno, htk, hok, hmi⟩ := hrel
    have HOWN := Lib.hid hown
    have HMI := Lib.hid hmi
    clear hown hmi
    by_cases hle : k ≤ n
    · have d0 : decide (k ≤ n) = true := decide_eq_true hle
      have d0' : decide ((k : Int) ≤ (n : Int)) = true := decide_eq_true (by omega)
      by_cases hlt : k < n
      · have hkc : k < l.length := by rw [HN.out]; exact hlt
        obtain ⟨g, o', rfl, hc0⟩ := (HS.out _ HMI.out.bel).cellAt k hkc
        have hdr : (l ++ [0]).drop k = l[k] :: (l ++ [0]).drop (k + 1) := by
          rw [List.drop_eq_getElem_cons (by simp; omega), List.getElem_append_left hkc]
        have hnn := hno.out
        rw [hdr] at hnn
        have hgx : gb l k = (l[k]).toNat := by unfold gb; rw [List.getElem?_eq_getElem hkc]; rfl
        have hx := hgl k
        obtain ⟨cc, hcc⟩ : ∃ cc, l[k] = cc := ⟨_, rfl⟩
        rw [hcc] at hnn hgx
        obtain ⟨x, hxe⟩ : ∃ x, gb l k = x := ⟨_, rfl⟩
        rw [hxe] at hc0 hgx hx
        have hpt := fun w => part_any x (by omega) w
        obtain ⟨y, hy⟩ : ∃ y, partB x = y := ⟨_, rfl⟩
        rw [hy] at hpt
        have HPT := Lib.hid hpt
        have HNN := Lib.hid hnn
        have HCN : Hid (partB cc.toNat = y) := by rw [← hgx]; exact hy
        have d1 : decide (k < n) = true := decide_eq_true hlt
        have k0 : (0 : Int) ≤ (k : Int) := by omega
        have k1 : (k : Int) < (n : Int) := by omega
        clear hno hnn hpt hcc hxe hgl hdr
        cases y with
        | true =>
          have hx128 := partB_lt x hy
          have henc := encode_one x hx128
          have hcx : UInt8.ofNat x = cc := by rw [hgx]; simp
          rw [hcx] at henc
          obtain ⟨z, hz⟩ : ∃ z : ByteArray, (⟨#[cc]⟩ : ByteArray) = z := ⟨_, rfl⟩
          have hzs : z.size = 1 := by rw [← hz]; rfl
          have hbz : bl (t ++ z) = bl t ++ [cc] := by
            rw [← hz]
            unfold bl
            rw [ByteArray.data_append, Array.toList_append]
          have hts : (t ++ z).size = t.size + 1 := by rw [ByteArray.size_append, hzs]
          rw [hz] at henc
          have w32 : IntKind.i32.wrap (x : Int) = (x : Int) := by
            have : ∀ n : Nat, n < 128 → IntKind.i32.wrap (n : Int) = (n : Int) := by decide
            exact this x hx128
          have hnx : Hid (o ++ rd (bl (t ++ z)) ((l ++ [0]).drop (k + 1)) = words l) := by
            have := HNN.out
            rw [rd, if_pos (by rw [HCN.out])] at this
            rw [hbz]
            exact this
          have kadd := fun w => run_string_add_sum (P := Try.prog) w t z (by omega)
          obtain ⟨tz, htz⟩ : ∃ tz, t ++ z = tz := ⟨_, rfl⟩
          rw [htz] at hnx hts
          simp only [htz] at kadd
          have HTS := Lib.hid hts
          have HY := Lib.hid hy
          clear hz hzs hbz htz hgx hcx hts hy
          go_wp2_with fail
          refine (HPT.out _).mono ?_
          rintro e w' ⟨rfl, rfl⟩
          go_wp2
          go_roundw
          case rel => exact ⟨k + 1, _, tz, o, ⟨by go_num, by omega⟩, rfl, rfl, HOWN.out, hnx, by have := HTS.out; omega, by omega, HMI.out⟩
          case measure => simp [intOf]; omega
        | false =>
          clear hgx hy
          obtain ⟨f1, f2, f3⟩ := empty_facts t
          by_cases h0 : t.size = 0
          · rw [decide_eq_true h0] at f1 f2 f3
            have hbt : bl t = [] := List.length_eq_zero_iff.1 (by rw [bl_len]; exact h0)
            have hnx : Hid (o ++ rd (bl ⟨#[]⟩) ((l ++ [0]).drop (k + 1)) = words l) := by
              have := HNN.out
              rw [rd, if_neg (by rw [HCN.out]; simp), if_neg (by simp [hbt])] at this
              exact this
            clear h0 hbt
            go_wp2_with fail
            refine (HPT.out _).mono ?_
            rintro e w' ⟨rfl, rfl⟩
            go_wp2
            go_roundw
            case rel => exact ⟨k + 1, _, ⟨#[]⟩, o, ⟨by go_num, by omega⟩, rfl, rfl, HOWN.out, hnx, Nat.zero_le _, by omega, HMI.out⟩
            case measure => simp [intOf] <;> omega
          · rw [decide_eq_false h0] at f1 f2 f3
            have hbt : bl t ≠ [] := fun h => h0 (by rw [← bl_len, h]; rfl)
            obtain ⟨m, hm⟩ : ∃ m, min t.size 32 = m := ⟨_, rfl⟩
            have hm1 : min (t.size : Int) 32 = (m : Int) := by omega
            have hm2 : m ≤ t.size := by omega
            obtain ⟨p, hp⟩ : ∃ p, t.extract 0 m = p := ⟨_, rfl⟩
            have hpb : bl p = (bl t).take 32 := by
              rw [← hp, bl_extract, List.drop_zero, Nat.sub_zero, ← hm]
              by_cases h : t.size ≤ 32
              · rw [Nat.min_eq_left h, List.take_of_length_le (by rw [bl_len]; omega), List.take_of_length_le (by rw [bl_len]; omega)]
              · rw [Nat.min_eq_right (by omega)]
            have hps : p.size ≤ 32 := by rw [← bl_len, hpb, List.length_take]; omega
            have hlo := fun w => lower_any p (by unfold maxLen; omega) w
            rw [hpb] at hlo
            obtain ⟨z, hz⟩ : ∃ z, lowL ((bl t).take 32) = z := ⟨_, rfl⟩
            rw [hz] at hlo
            have hnx : Hid ((o ++ [z]) ++ rd (bl ⟨#[]⟩) ((l ++ [0]).drop (k + 1)) = words l) := by
              have := HNN.out
              rw [rd, if_neg (by rw [HCN.out]; simp), if_pos hbt, hz] at this
              rw [List.append_assoc]
              exact this
            have HLO := Lib.hid hlo
            have c1 : (0 : Int) ≤ (m : Int) := by omega
            have c2 : (m : Int) ≤ (t.size : Int) := by omega
            clear hm hpb hps hlo hz hbt h0
            go_wp2_with fail
            refine (HPT.out _).mono ?_
            rintro e w' ⟨rfl, rfl⟩
            go_wp2_with fail
            refine (HLO.out _).mono ?_
            rintro e w2 ⟨rfl, hb2⟩
            have hown2 := (HOWN.out.below hb2)
            have hmi2 := (HMI.out.call hb2)
            have hta := hown2.alloc (.cells #[encStr z] 9)
            have hma := hmi2.alloc (.cells #[encStr z] 9)
            have hlt := TS_lit w2 z
            have HTA := Lib.hid hta
            have HMA := Lib.hid hma
            have HLT := Lib.hid hlt
            clear hown2 hmi2 hta hma hlt hb2
            go_wp2_with (at_builtin; refine wpT_append rfl _ _ rfl B _ _ o [z] rfl HTA.out rfl HLT.out (by simp) (by simp; omega) HMA.out.le ?_)
            intro v' w3 hown' hgrow hbel
            have HO := Lib.hid hown'
            have HM1 := Lib.hid (HMA.out.callN hbel (Nat.le_refl B))
            clear hown' hgrow hbel HTA HMA HLT
            go_wp2
            go_roundw
            case rel => exact ⟨k + 1, _, ⟨#[]⟩, o ++ [z], ⟨by go_num, by omega⟩, rfl, rfl, HO.out, hnx, Nat.zero_le _, by simp; omega, HM1.out⟩
            case measure => simp [intOf] <;> omega
      · obtain rfl : k = n := by omega
        have d1 : decide (k < k) = false := decide_eq_false hlt
        have d1' : decide ((k : Int) < (k : Int)) = false := decide_eq_false (by omega)
        have hdr : (l ++ [0]).drop k = 0 :: (l ++ [0]).drop (k + 1) := by
          have hn2 := HN.out
          rw [List.drop_eq_getElem_cons (by simp; omega), List.getElem_append_right (by omega)]
          simp
        have hnn := hno.out
        rw [hdr] at hnn
        have HNN := Lib.hid hnn
        have HCN : Hid (partB (0 : UInt8).toNat = false) := by show _ = _; decide
        clear hno hnn hdr hgl
        obtain ⟨f1, f2, f3⟩ := empty_facts t
        by_cases h0 : t.size = 0
        · rw [decide_eq_true h0] at f1 f2 f3
          have hbt : bl t = [] := List.length_eq_zero_iff.1 (by rw [bl_len]; exact h0)
          have hnx : Hid (o ++ rd (bl ⟨#[]⟩) ((l ++ [0]).drop (k + 1)) = words l) := by
            have := HNN.out
            rw [rd, if_neg (by rw [HCN.out]; simp), if_neg (by simp [hbt])] at this
            exact this
          clear h0 hbt
          go_wp2
          go_roundw
          case rel => exact ⟨k + 1, _, ⟨#[]⟩, o, ⟨by go_num, by omega⟩, rfl, rfl, HOWN.out, hnx, Nat.zero_le _, by omega, HMI.out⟩
          case measure => simp [intOf] <;> omega
        · rw [decide_eq_false h0] at f1 f2 f3
          have hbt : bl t ≠ [] := fun h => h0 (by rw [← bl_len, h]; rfl)
          obtain ⟨m, hm⟩ : ∃ m, min t.size 32 = m := ⟨_, rfl⟩
          have hm1 : min (t.size : Int) 32 = (m : Int) := by omega
          have hm2 : m ≤ t.size := by omega
          obtain ⟨p, hp⟩ : ∃ p, t.extract 0 m = p := ⟨_, rfl⟩
          have hpb : bl p = (bl t).take 32 := by
            rw [← hp, bl_extract, List.drop_zero, Nat.sub_zero, ← hm]
            by_cases h : t.size ≤ 32
            · rw [Nat.min_eq_left h, List.take_of_length_le (by rw [bl_len]; omega), List.take_of_length_le (by rw [bl_len]; omega)]
            · rw [Nat.min_eq_right (by omega)]
          have hps : p.size ≤ 32 := by rw [← bl_len, hpb, List.length_take]; omega
          have hlo := fun w => lower_any p (by unfold maxLen; omega) w
          rw [hpb] at hlo
          obtain ⟨z, hz⟩ : ∃ z, lowL ((bl t).take 32) = z := ⟨_, rfl⟩
          rw [hz] at hlo
          have hnx : Hid ((o ++ [z]) ++ rd (bl ⟨#[]⟩) ((l ++ [0]).drop (k + 1)) = words l) := by
            have := HNN.out
            rw [rd, if_neg (by rw [HCN.out]; simp), if_pos hbt, hz] at this
            rw [List.append_assoc]
            exact this
          have HLO := Lib.hid hlo
          have c1 : (0 : Int) ≤ (m : Int) := by omega
          have c2 : (m : Int) ≤ (t.size : Int) := by omega
          clear hm hpb hps hlo hz hbt h0
          go_wp2_with fail
          refine (HLO.out _).mono ?_
          rintro e w2 ⟨rfl, hb2⟩
          have hown2 := (HOWN.out.below hb2)
          have hmi2 := (HMI.out.call hb2)
          have hta := hown2.alloc (.cells #[encStr z] 9)
          have hma := hmi2.alloc (.cells #[encStr z] 9)
          have hlt := TS_lit w2 z
          have HTA := Lib.hid hta
          have HMA := Lib.hid hma
          have HLT := Lib.hid hlt
          clear hown2 hmi2 hta hma hlt hb2
          go_wp2_with (at_builtin; refine wpT_append rfl _ _ rfl B _ _ o [z] rfl HTA.out rfl HLT.out (by simp) (by simp; omega) HMA.out.le ?_)
          intro v' w3 hown' hgrow hbel
          have HO := Lib.hid hown'
          have HM1 := Lib.hid (HMA.out.callN hbel (Nat.le_refl B))
          clear hown' hgrow hbel HTA HMA HLT
          go_wp2
          go_roundw
          case rel => exact ⟨k + 1, _, ⟨#[]⟩, o ++ [z], ⟨by go_num, by omega⟩, rfl, rfl, HO.out, hnx, Nat.zero_le _, by simp; omega, HM1.out⟩
          case measure => simp [intOf] <;> omega
    · have d0 : decide (k ≤ n) = false := decide_eq_false hle
      have d0' : decide ((k : Int) ≤ (n : Int)) = false := decide_eq_false (by omega)
      have he : o = words l := by
        rw [← hno.out, List.drop_eq_nil_of_le (by simp; have := HN.out; omega)]
        simp [rd]
      have HE := Lib.hid he
      clear hno he
      go_wp2
      go_ret
      exact ⟨_, rfl, by rw [← HE.out]; exact HOWN.out, HMI.out.bel⟩
end Go.Proofs.Ythcggjehihkdoaa

/- The reference's Mailbox. -/
import Derived.RangeFuncNested
import Derived.RangeFuncBound
import Derived.RangeFuncCalls
import Derived.RangeFuncLeaves
import Derived.Shelf.Abstract
import Derived.Shelf.RegionOpen
import Derived.WalkKit
import Derived.OwnWalkIn
import Derived.TacticsInMore
import Derived.LoopNIn
import Derived.LoopIn
import Derived.Outline
import Derived.Lib.Hide
import Derived.Lib.SliceRun
import Derived.IntWalk
import Derived.WalkLawsBesides
import Derived.WalkSpells
import Derived.Laws.BitsAllLaws
import Derived.Lib.ConvBytes
import Derived.Maps.AppendAt
import Derived.Lib.AppendStr
import Derived.Lib.SlBytesConst
import Derived.Laws.AppendOwnNone
import Derived.Laws.OwnMore
import Derived.Laws.BytesArg
import Derived.Deep.RegionHeld3
import Derived.BigQuiet
import Derived.Deep.RegionLaw
import Derived.Deep.QuietTactic
import Derived.Lib.OthersKept
import Derived.Test.YtlgodokgebjjaaaProg
import Derived.Deep.DeepFit
import Derived.Test.YtlgodokgebjjaaaPtH
set_option linter.unusedVariables false
set_option linter.unusedSimpArgs false
namespace Go.Proofs.Ytlgodokgebjjaaa
open Go Go.RowKit Go.Shelf

set_option maxRecDepth 100000 in
set_option maxHeartbeats 8000000 in
/-- **the reference's Mailbox** -/
theorem rmailbox_any (s : ByteArray) (hm : s.size ≤ maxLen) (w : World) :
    Calls Try.prog 46 #[.string s] w fun e w' => e = .returned (.bool (mailB (bl s))) ∧ Below w.heap.size w w' := by
  have hl := fun w => last_any s 64 hm w
  unfold maxLen at hm
  have hbd := lastB_bound (bl s) 64
  rw [bl_len] at hbd
  obtain ⟨m, hmm⟩ : ∃ m, mailB (bl s) = m := ⟨_, rfl⟩
  rw [hmm]
  unfold mailB at hmm
  obtain ⟨a, ha⟩ : ∃ a, lastB (bl s) 64 = a := ⟨_, rfl⟩
  rw [ha] at hmm hbd
  simp only [ha] at hl
  have HL : Hid (∀ w, Calls Try.prog 74 #[.string s, .int .u8 64] w fun e w' => e = .returned (.int .i64 a) ∧ w' = w) := hl
  clear hl
  by_cases h1 : a < 1
  · have d1 : decide (a < 1) = true := by simpa using h1
    have hf : m = false := by rw [← hmm, show decide (1 ≤ a) = false from decide_eq_false (by omega)]; rfl
    subst hf
    clear hmm ha
    go_enter Try.func46, Try.ntmps46
    go_wp2_with fail
    refine (HL.out _).mono ?_
    rintro e w' ⟨rfl, rfl⟩
    go_wp2
    go_ret
    exact ⟨rfl, Below.refl _ _⟩
  have d1 : decide (a < 1) = false := by simpa using h1
  by_cases h2 : 64 < a
  · have d2 : decide (64 < a) = true := by simpa using h2
    have hf : m = false := by rw [← hmm, show decide (a ≤ 64) = false from decide_eq_false (by omega), Bool.and_false]; rfl
    subst hf
    clear hmm ha
    go_enter Try.func46, Try.ntmps46
    go_wp2_with fail
    refine (HL.out _).mono ?_
    rintro e w' ⟨rfl, rfl⟩
    go_wp2
    go_ret
    exact ⟨rfl, Below.refl _ _⟩
  have d2 : decide (64 < a) = false := by simpa using h2
  obtain ⟨n, rfl⟩ := Int.eq_ofNat_of_zero_le (show 0 ≤ a by omega)
  have hdm := fun w => rdomain_any (s.extract (n + 1) s.size) (by simp only [ByteArray.size_extract]; unfold maxLen; omega) w
  have he : domB (bl (s.extract (n + 1) s.size)) = domB ((bl s).drop (n + 1)) := by
    rw [bl_extract, List.take_of_length_le (by simp [bl_len])]
  simp only [he] at hdm
  rw [show decide ((1 : Int) ≤ (n : Int)) = true from decide_eq_true (by omega), show decide ((n : Int) ≤ 64) = true from decide_eq_true (by omega), Bool.true_and, Bool.true_and, Int.toNat_natCast] at hmm
  have b1 : (0 : Int) ≤ (n : Int) + 1 := by omega
  have b2 : (n : Int) + 1 ≤ (s.size : Int) := by omega
  have b3 : ((n : Int) + 1).toNat = n + 1 := by omega
  have b4 : (0 : Int) ≤ (n : Int) := by omega
  have b5 : (n : Int) ≤ (s.size : Int) := by omega
  obtain ⟨db, hdb⟩ : ∃ db, domB ((bl s).drop (n + 1)) = db := ⟨_, rfl⟩
  rw [hdb] at hmm
  simp only [hdb] at hdm
  have HD := Lib.hid hdm
  have n64 : n ≤ 64 := by omega
  have hsub : (s.extract 0 n).size ≤ 64 := by simp only [ByteArray.size_extract]; omega
  have htk : (bl s).take n = bl (s.extract 0 n) := by rw [bl_extract, List.drop_zero, Nat.sub_zero]
  rw [htk] at hmm
  clear hdm he hdb ha htk
  cases db with
  | false =>
    have hf : m = false := by rw [← hmm]; rfl
    subst hf
    clear hmm
    go_enter Try.func46, Try.ntmps46
    go_wp2_with fail
    refine (HL.out _).mono ?_
    rintro e w' ⟨rfl, rfl⟩
    go_wp2_with fail
    refine (HD.out _).mono ?_
    rintro e w1 ⟨rfl, hB⟩
    go_wp2
    go_ret
    exact ⟨rfl, hB⟩
  | true =>
    rw [Bool.true_and] at hmm
    obtain ⟨P, hP⟩ : ∃ P, sp (bl (s.extract 0 n)) = P := ⟨_, rfl⟩
    have hpl : ∀ x ∈ P, x.length ≤ 64 := fun x hx => by rw [← hP] at hx; have := sp_mem_len _ x hx; rw [bl_len] at this; omega
    have hpn : P.length ≤ 65 := by have := sp_len (bl (s.extract 0 n)); rw [hP, bl_len] at this; omega
    have hps := fun w => parts_any (s.extract 0 n) (by omega) w
    rw [hP] at hps hmm
    have HPL := Lib.hid hpl
    have HR := Lib.hid hmm
    have HPS := Lib.hid hps
    clear hpl hmm hps hP hsub
    go_enter Try.func46, Try.ntmps46
    go_wp2_with fail
    refine (HL.out _).mono ?_
    rintro e w' ⟨rfl, rfl⟩
    go_wp2_with fail
    refine (HD.out _).mono ?_
    rintro e w1 ⟨rfl, hB1⟩
    go_wp2_with fail
    refine (HPS.out _).mono ?_
    rintro e w2 ⟨v, rfl, hov, hB2⟩
    obtain ⟨A, c, rfl, hc1, hcell⟩ := hov.reads
    rw [SV_len] at hc1 hcell ⊢
    have HC := Lib.hid hcell
    have HB := Lib.hid (hB1.trans (hB2.mono hB1.size))
    clear hov hcell hB1 hB2 d1 d2 HPS HL HD
    obtain ⟨N, hN⟩ : ∃ n, P.length = n := ⟨_, rfl⟩
    rw [hN] at hpn hc1 ⊢
    have HN := Lib.hid hN
    obtain ⟨x1, hx1⟩ : ∃ x, s.extract 0 n = x := ⟨_, rfl⟩
    obtain ⟨x2, hx2⟩ : ∃ x, s.extract (n + 1) s.size = x := ⟨_, rfl⟩
    rw [hx1, hx2]
    clear hN hx1 hx2
    go_wp2
    go_loop [28, 5, 6] (fun i x y => ∃ k : Nat, (i = .int .i64 (k : Int) ∧ k ≤ N) ∧ (P.take k).all nameB = true) (fun i _ _ => N - (intOf i).toNat)
    case atStart => exact ⟨0, ⟨rfl, Nat.zero_le _⟩, rfl⟩
    case round =>
      obtain ⟨k, ⟨rfl, hk⟩, hl⟩ := hrel
      have HL := Lib.hid hl
      clear hl
      by_cases hlt : k < N
      · have hkP : k < P.length := by rw [HN.out]; exact hlt
        obtain ⟨g, o, rfl, hck⟩ := HC.out k hkP
        rw [SV_get _ _ hkP] at hck
        have hsn := all_snocS nameB P k hkP
        have hno := all_notS nameB P k hkP
        have hql := HPL.out _ (List.getElem_mem hkP)
        obtain ⟨q, hq⟩ : ∃ q : ByteArray, (⟨(P[k]).toArray⟩ : ByteArray) = q := ⟨_, rfl⟩
        have hqb : P[k] = bl q := by rw [← hq, bl_mk]
        rw [hq] at hck
        rw [hqb] at hsn hno hql
        rw [bl_len] at hql
        rw [HL.out, Bool.true_and] at hsn
        have HSN := Lib.hid hsn
        have HNO := Lib.hid hno
        have hk0 : (0 : Int) ≤ (k : Int) := by omega
        have hkn : (k : Int) < (N : Int) := by omega
        clear hsn hno hq hqb
        by_cases q0 : 1 ≤ q.size
        · obtain ⟨e1, e1'⟩ := empty_len q0
          have hne : (bl q).isEmpty = false := by rw [← toList_bl]; exact e1
          have hnm : nameB (bl q) = ofN atomN (bl q) := by unfold nameB; rw [hne]; rfl
          have HNM := Lib.hid hnm
          clear hnm hne
          go_wp2
          clear e1 e1' hck
          go_loop [6] (fun y => ∃ j : Nat, (y = .int .i64 (j : Int) ∧ j ≤ q.size) ∧ ofN atomN ((bl q).take j) = true) (fun y => q.size - (intOf y).toNat)
          case atStart => exact ⟨0, ⟨rfl, Nat.zero_le _⟩, rfl⟩
          case round =>
            obtain ⟨j, ⟨rfl, hj⟩, hl2⟩ := hrel
            have HL2 := Lib.hid hl2
            clear hl2
            by_cases hlt2 : j < q.size
            · have hg := bl_get q j hlt2
              have hsn2 := ofN_snoc atomN (bl q) j (by rw [bl_len]; exact hlt2)
              have hno2 := ofN_not atomN (bl q) j (by rw [bl_len]; exact hlt2)
              have hkn2 := fun w => atom_any (gb (bl q) j) (by have := gb_lt (bl q) j; omega) w
              obtain ⟨c', hcc⟩ : ∃ c, gb (bl q) j = c := ⟨_, rfl⟩
              rw [hcc] at hg hsn2 hno2
              simp only [hcc] at hkn2
              rw [HL2.out, Bool.true_and] at hsn2
              obtain ⟨wd, hwd⟩ : ∃ kd, atomN c' = kd := ⟨_, rfl⟩
              simp only [hwd] at hkn2
              have HW := Lib.hid hwd
              have HK := Lib.hid hkn2
              have HSN2 := Lib.hid hsn2
              have HNO2 := Lib.hid hno2
              clear hkn2 hsn2 hno2 hcc hwd
              cases wd with
              | true =>
                go_wp2_with fail
                refine (HK.out _).mono ?_
                rintro e w' ⟨rfl, rfl⟩
                go_wp2
                go_round
                case rel => exact ⟨j + 1, ⟨by go_num, by omega⟩, by rw [HSN2.out, HW.out]⟩
                case measure => simp [intOf]; omega
              | false =>
                have hf : m = false := by rw [← HR.out]; exact HNO.out (by rw [HNM.out]; exact HNO2.out HW.out)
                subst hf
                go_wp2_with fail
                refine (HK.out _).mono ?_
                rintro e w' ⟨rfl, rfl⟩
                go_wp2
                go_ret
                exact ⟨rfl, HB.out⟩
            · have hall := ofN_all atomN (bl q) j HL2.out (by rw [bl_len]; omega)
              have d1 : decide (j < q.size) = false := by simpa using hlt2
              have HA := Lib.hid hall
              clear hall
              go_wp2
              go_round
              case rel => exact ⟨k + 1, ⟨by go_num, by omega⟩, by rw [HSN.out, HNM.out, HA.out]⟩
              case measure => simp [intOf]; omega
        · have hs : q = ⟨#[]⟩ := bl_ext (by have := bl_len q; apply List.length_eq_zero_iff.1; omega)
          subst hs
          have hf : m = false := by rw [← HR.out]; exact HNO.out rfl
          subst hf
          go_wp2
          go_ret
          exact ⟨rfl, HB.out⟩
      · have hf : m = true := by rw [← HR.out, ← HL.out, List.take_of_length_le (by rw [HN.out]; omega)]
        subst hf
        have d1 : decide (k < N) = false := by simpa using hlt
        go_wp2
        go_ret
        exact ⟨rfl, HB.out⟩
end Go.Proofs.Ytlgodokgebjjaaa

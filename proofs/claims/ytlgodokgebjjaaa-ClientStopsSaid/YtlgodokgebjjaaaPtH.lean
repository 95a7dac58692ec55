/- The reference's Domain and Mailbox. -/
import Derived.RangeFuncNested
import Derived.RangeFuncBound
import Derived.RangeFuncCalls
import Derived.RangeFuncLeaves
import Derived.Shelf.Abstract
import Derived.Shelf.RegionOpen
import Derived.WalkKit
import Derived.OwnWalkIn
import Derived.TacticsInMore
import Derived.LoopNIn
import Derived.LoopIn
import Derived.Outline
import Derived.Lib.Hide
import Derived.Lib.SliceRun
import Derived.IntWalk
import Derived.WalkLawsBesides
import Derived.WalkSpells
import Derived.Laws.BitsAllLaws
import Derived.Lib.ConvBytes
import Derived.Maps.AppendAt
import Derived.Lib.AppendStr
import Derived.Lib.SlBytesConst
import Derived.Laws.AppendOwnNone
import Derived.Laws.OwnMore
import Derived.Laws.BytesArg
import Derived.Deep.RegionHeld3
import Derived.BigQuiet
import Derived.Deep.RegionLaw
import Derived.Deep.QuietTactic
import Derived.Lib.OthersKept
import Derived.Test.YtlgodokgebjjaaaProg
import Derived.Deep.DeepFit
import Derived.Test.YtlgodokgebjjaaaPtC
import Derived.Test.YtlgodokgebjjaaaPtE
import Derived.Test.YtlgodokgebjjaaaPtF
import Derived.Test.YtlgodokgebjjaaaPtG
set_option linter.unusedVariables false
set_option linter.unusedSimpArgs false
namespace Go.Proofs.Ytlgodokgebjjaaa
open Go Go.RowKit Go.Shelf

theorem SV_get (ls : List (List UInt8)) (k : Nat) (h : k < ls.length) : (SV ls)[k]? = some (.string ⟨(ls[k]).toArray⟩) := by
  unfold SV; rw [List.getElem?_map, List.getElem?_eq_getElem h]; rfl
theorem all_snocS {α : Type} (p : α → Bool) (l : List α) (k : Nat) (h : k < l.length) : (l.take (k + 1)).all p = ((l.take k).all p && p l[k]) := all_take_snoc p l k _ (List.getElem?_eq_getElem h)
theorem all_notS {α : Type} (p : α → Bool) (l : List α) (k : Nat) (h : k < l.length) (hp : p l[k] = false) : l.all p = false := all_not p l k _ (List.getElem?_eq_getElem h) hp
theorem empty_len {s : ByteArray} (h : 1 ≤ s.size) : s.toList.isEmpty = false ∧ (s.toList == []) = false := by
  have e : bl s ≠ [] := fun e => by have := congrArg List.length e; rw [bl_len, List.length_nil] at this; omega
  rw [toList_bl]
  exact ⟨by rw [List.isEmpty_eq_false_iff]; exact e, by rw [beq_eq_false_iff_ne]; exact e⟩
set_option maxRecDepth 100000 in
set_option maxHeartbeats 8000000 in
theorem rdomain_in (s : ByteArray) (h0 : 1 ≤ s.size) (hm : s.size ≤ 255) (w : World) :
    Calls Try.prog 45 #[.string s] w fun e w' => e = .returned (.bool ((sp (bl s)).all labelB)) ∧ Below w.heap.size w w' := by
  obtain ⟨P, hP⟩ : ∃ P, sp (bl s) = P := ⟨_, rfl⟩
  obtain ⟨r, hr⟩ : ∃ r, P.all labelB = r := ⟨_, rfl⟩
  have hpl : ∀ x ∈ P, x.length ≤ 255 := fun x hx => by rw [← hP] at hx; have := sp_mem_len (bl s) x hx; rw [bl_len] at this; omega
  have hpn : P.length ≤ 256 := by have := sp_len (bl s); rw [hP, bl_len] at this; omega
  have HPL := Lib.hid hpl
  have HR := Lib.hid hr
  have hps := fun w => parts_any s (by omega) w
  rw [hP] at hps
  have HPS := Lib.hid hps
  rw [hP, hr]
  have d1 : decide ((s.size : Int) < 1) = false := decide_eq_false (by omega)
  have d1' : decide (s.size < 1) = false := decide_eq_false (by omega)
  have d2 : decide ((255 : Int) < (s.size : Int)) = false := decide_eq_false (by omega)
  have d2' : decide (255 < s.size) = false := decide_eq_false (by omega)
  clear hP hr hps hpl
  go_enter Try.func45, Try.ntmps45
  go_wp2_with fail
  refine (HPS.out _).mono ?_
  rintro e w1 ⟨v, rfl, hov, hB⟩
  obtain ⟨A, c, rfl, hc1, hcell⟩ := hov.reads
  rw [SV_len] at hc1 hcell ⊢
  have HC := Lib.hid hcell
  have HB := Lib.hid hB
  clear hov hcell hB d1 d1' d2 d2' HPS
  obtain ⟨n, hn⟩ : ∃ n, P.length = n := ⟨_, rfl⟩
  rw [hn] at hpn hc1 ⊢
  have HN := Lib.hid hn
  clear hn
  go_wp2
  go_loop [17, 4, 5] (fun i x y => ∃ k : Nat, (i = .int .i64 (k : Int) ∧ k ≤ n) ∧ (P.take k).all labelB = true) (fun i _ _ => n - (intOf i).toNat)
  case atStart => exact ⟨0, ⟨rfl, Nat.zero_le _⟩, rfl⟩
  case round =>
    obtain ⟨k, ⟨rfl, hk⟩, hl⟩ := hrel
    have HL := Lib.hid hl
    clear hl
    by_cases hlt : k < n
    · have hkP : k < P.length := by rw [HN.out]; exact hlt
      obtain ⟨g, o, rfl, hck⟩ := HC.out k hkP
      rw [SV_get _ _ hkP] at hck
      have hsn := all_snocS labelB P k hkP
      have hno := all_notS labelB P k hkP
      have hql := HPL.out _ (List.getElem_mem hkP)
      obtain ⟨q, hq⟩ : ∃ q : ByteArray, (⟨(P[k]).toArray⟩ : ByteArray) = q := ⟨_, rfl⟩
      have hqb : P[k] = bl q := by rw [← hq, bl_mk]
      rw [hq] at hck
      rw [hqb] at hsn hno hql
      rw [bl_len] at hql
      rw [HL.out, Bool.true_and] at hsn
      have hlab : labelB (bl q) = (decide (1 ≤ q.size) && decide (q.size ≤ 63) && !(gb (bl q) 0 == 45) && !(gb (bl q) (q.size - 1) == 45) && ofN lbN (bl q)) := by unfold labelB; rw [bl_len]; rfl
      have HSN := Lib.hid hsn
      have HNO := Lib.hid hno
      have HLAB := Lib.hid hlab
      have hk0 : (0 : Int) ≤ (k : Int) := by omega
      have hkn : (k : Int) < (n : Int) := by omega
      clear hsn hno hlab hq hqb
      by_cases q0 : 1 ≤ q.size
      · have e1 : decide ((q.size : Int) < 1) = false := decide_eq_false (by omega)
        have e1' : decide (q.size < 1) = false := decide_eq_false (by omega)
        by_cases q63 : q.size ≤ 63
        · have e2 : decide ((63 : Int) < (q.size : Int)) = false := decide_eq_false (by omega)
          have e2' : decide (63 < q.size) = false := decide_eq_false (by omega)
          have g0 := bl_get q 0 (by omega)
          have z4 : 0 < q.size := by omega
          obtain ⟨a0, ea0⟩ : ∃ a, gb (bl q) 0 = a := ⟨_, rfl⟩
          rw [ea0] at g0 HLAB
          clear ea0
          by_cases h45 : a0 = 45
          · subst h45
            have hf : r = false := by rw [← HR.out]; exact HNO.out (by rw [HLAB.out]; simp)
            subst hf
            go_wp2
            go_ret
            exact ⟨rfl, HB.out⟩
          · have e3 : (a0 == 45) = false := by simpa using h45
            have e3' : ((a0 : Int) == 45) = false := by simp; omega
            have g1 := bl_get q (q.size - 1) (by omega)
            have z1 : (0 : Int) ≤ (q.size : Int) - 1 := by omega
            have z2 : ((q.size : Int) - 1).toNat = q.size - 1 := by omega
            have z3 : (q.size : Int) - 1 < (q.size : Int) := by omega
            obtain ⟨a1, ea1⟩ : ∃ a, gb (bl q) (q.size - 1) = a := ⟨_, rfl⟩
            rw [ea1] at g1 HLAB
            clear ea1
            by_cases h451 : a1 = 45
            · subst h451
              have hf : r = false := by rw [← HR.out]; exact HNO.out (by rw [HLAB.out]; simp)
              subst hf
              clear h45
              go_wp2
              go_ret
              exact ⟨rfl, HB.out⟩
            · have e4 : (a1 == 45) = false := by simpa using h451
              have e4' : ((a1 : Int) == 45) = false := by simp; omega
              have hlab2 : labelB (bl q) = ofN lbN (bl q) := by rw [HLAB.out]; simp [q0, q63, h45, h451]
              have HLAB2 := Lib.hid hlab2
              clear h45 h451 hlab2 HLAB
              go_wp2
              clear e1 e1' e2 e2' e3 e3' e4 e4' g0 g1 z1 z2 z3
              go_loop [5] (fun y => ∃ j : Nat, (y = .int .i64 (j : Int) ∧ j ≤ q.size) ∧ ofN lbN ((bl q).take j) = true) (fun y => q.size - (intOf y).toNat)
              case atStart => exact ⟨0, ⟨rfl, Nat.zero_le _⟩, rfl⟩
              case round =>
                obtain ⟨j, ⟨rfl, hj⟩, hl2⟩ := hrel
                have HL2 := Lib.hid hl2
                clear hl2
                by_cases hlt2 : j < q.size
                · have hg := bl_get q j hlt2
                  have hsn2 := ofN_snoc lbN (bl q) j (by rw [bl_len]; exact hlt2)
                  have hno2 := ofN_not lbN (bl q) j (by rw [bl_len]; exact hlt2)
                  have hkn2 := fun w => letter_any (gb (bl q) j) (by have := gb_lt (bl q) j; omega) w
                  obtain ⟨c', hcc⟩ : ∃ c, gb (bl q) j = c := ⟨_, rfl⟩
                  rw [hcc] at hg hsn2 hno2
                  simp only [hcc] at hkn2
                  rw [HL2.out, Bool.true_and] at hsn2
                  obtain ⟨wd, hwd⟩ : ∃ kd, wordN c' = kd := ⟨_, rfl⟩
                  simp only [hwd] at hkn2
                  have HW := Lib.hid hwd
                  have HK := Lib.hid hkn2
                  have HSN2 := Lib.hid hsn2
                  have HNO2 := Lib.hid hno2
                  clear hkn2 hsn2 hno2 hcc hwd
                  cases wd with
                  | true =>
                    go_wp2_with fail
                    refine (HK.out _).mono ?_
                    rintro e w' ⟨rfl, rfl⟩
                    go_wp2
                    go_round
                    case rel => exact ⟨j + 1, ⟨by go_num, by omega⟩, by rw [HSN2.out, lbN, HW.out, Bool.true_or]⟩
                    case measure => simp [intOf]; omega
                  | false =>
                    by_cases h45 : c' = 45
                    · subst h45
                      go_wp2_with fail
                      refine (HK.out _).mono ?_
                      rintro e w' ⟨rfl, rfl⟩
                      go_wp2
                      go_round
                      case rel => exact ⟨j + 1, ⟨by go_num, by omega⟩, by rw [HSN2.out, lbN, HW.out]; rfl⟩
                      case measure => simp [intOf]; omega
                    · have e2 : (c' != 45) = true := by simpa using h45
                      have e3 : ((c' : Int) != 45) = true := by simp; omega
                      have hf : r = false := by rw [← HR.out]; exact HNO.out (by rw [HLAB2.out]; exact HNO2.out (by rw [lbN, HW.out, Bool.false_or]; simpa using h45))
                      subst hf
                      clear h45
                      go_wp2_with fail
                      refine (HK.out _).mono ?_
                      rintro e w' ⟨rfl, rfl⟩
                      go_wp2
                      go_ret
                      exact ⟨rfl, HB.out⟩
                · have hall := ofN_all lbN (bl q) j HL2.out (by rw [bl_len]; omega)
                  have d1 : decide (j < q.size) = false := by simpa using hlt2
                  have HA := Lib.hid hall
                  clear hall
                  go_wp2
                  go_round
                  case rel => exact ⟨k + 1, ⟨by go_num, by omega⟩, by rw [HSN.out, HLAB2.out, HA.out]⟩
                  case measure => simp [intOf]; omega
        · have e2 : decide ((63 : Int) < (q.size : Int)) = true := decide_eq_true (by omega)
          have e2' : decide (63 < q.size) = true := decide_eq_true (by omega)
          have hf : r = false := by rw [← HR.out]; exact HNO.out (by rw [HLAB.out]; simp [q63])
          subst hf
          go_wp2
          go_ret
          exact ⟨rfl, HB.out⟩
      · have e1 : decide ((q.size : Int) < 1) = true := decide_eq_true (by omega)
        have e1' : decide (q.size < 1) = true := decide_eq_true (by omega)
        have hf : r = false := by rw [← HR.out]; exact HNO.out (by rw [HLAB.out]; simp [q0])
        subst hf
        go_wp2
        go_ret
        exact ⟨rfl, HB.out⟩
    · have hf : r = true := by rw [← HR.out, ← HL.out, List.take_of_length_le (by rw [HN.out]; omega)]
      subst hf
      have d1 : decide (k < n) = false := by simpa using hlt
      go_wp2
      go_ret
      exact ⟨rfl, HB.out⟩
set_option maxRecDepth 100000 in
set_option maxHeartbeats 2000000 in
/-- **the reference's Domain** -/
theorem rdomain_any (s : ByteArray) (hm : s.size ≤ maxLen) (w : World) :
    Calls Try.prog 45 #[.string s] w fun e w' => e = .returned (.bool (domB (bl s))) ∧ Below w.heap.size w w' := by
  have hdom : domB (bl s) = ((sp (bl s)).all labelB && decide (s.size ≤ 255)) := by unfold domB; rw [bl_len]
  by_cases h0 : 1 ≤ s.size
  · by_cases h1 : s.size ≤ 255
    · rw [hdom, show decide (s.size ≤ 255) = true by simpa using h1, Bool.and_true]
      exact rdomain_in s h0 h1 w
    · rw [hdom, show decide (s.size ≤ 255) = false by simpa using h1, Bool.and_false]
      have d1 : decide ((s.size : Int) < 1) = false := decide_eq_false (by omega)
      have d1' : decide (s.size < 1) = false := decide_eq_false (by omega)
      have d2 : decide ((255 : Int) < (s.size : Int)) = true := decide_eq_true (by omega)
      have d2' : decide (255 < s.size) = true := decide_eq_true (by omega)
      clear hdom
      go_enter Try.func45, Try.ntmps45
      go_wp2
      go_ret
      exact ⟨rfl, Below.refl _ _⟩
  · have hs : s = ⟨#[]⟩ := bl_ext (by have := bl_len s; apply List.length_eq_zero_iff.1; omega)
    subst hs
    have e : domB (bl ⟨#[]⟩) = false := rfl
    rw [e]
    clear hdom e
    go_enter Try.func45, Try.ntmps45
    go_wp2
    go_ret
    exact ⟨rfl, Below.refl _ _⟩
end Go.Proofs.Ytlgodokgebjjaaa

/- client.reply. -/
import Derived.RangeFuncNested
import Derived.RangeFuncBound
import Derived.RangeFuncCalls
import Derived.RangeFuncLeaves
import Derived.Shelf.Abstract
import Derived.Shelf.RegionOpen
import Derived.WalkKit
import Derived.OwnWalkIn
import Derived.TacticsInMore
import Derived.LoopNIn
import Derived.LoopIn
import Derived.Outline
import Derived.Lib.Hide
import Derived.Lib.SliceRun
import Derived.IntWalk
import Derived.WalkLawsBesides
import Derived.WalkSpells
import Derived.Laws.BitsAllLaws
import Derived.Lib.ConvBytes
import Derived.Maps.AppendAt
import Derived.Lib.AppendStr
import Derived.Lib.SlBytesConst
import Derived.Laws.AppendOwnNone
import Derived.Laws.OwnMore
import Derived.Laws.BytesArg
import Derived.Deep.RegionHeld3
import Derived.BigQuiet
import Derived.Deep.RegionLaw
import Derived.Deep.QuietTactic
import Derived.Lib.OthersKept
import Derived.Test.YtlgodokgebjjaaaProg
import Derived.Deep.DeepFit
import Derived.Test.YtlgodokgebjjaaaClA
set_option linter.unusedVariables false
set_option linter.unusedSimpArgs false
namespace Go.Proofs.Ytlgodokgebjjaaa
open Go Go.RowKit Go.Shelf

/-- what reply tells -/
def rpC (o : Option (Nat × Nat)) : Nat := match o with | some p => p.1 | none => 0
def rpU (o : Option (Nat × Nat)) : Nat := match o with | some p => p.2 | none => 0
theorem rpL_cons (h : List UInt8) (a : List UInt8) (t : List (List UInt8)) (n : Nat) : rpL h (a :: t) n = if codeB a && decide (a.take 3 = h) then if lastC a then some (codeN a, n + a.length) else if gb a 3 = 45 then rpL h t (n + a.length) else none else none := by rw [rpL]
theorem codeB_parts (a : List UInt8) : codeB a = (decide (5 ≤ a.length) && (decide (50 ≤ gb a 0) && decide (gb a 0 ≤ 53)) && (decide (48 ≤ gb a 1) && decide (gb a 1 ≤ 57)) && (decide (48 ≤ gb a 2) && decide (gb a 2 ≤ 57))) := rfl
theorem take_take3 (a : List UInt8) (k : Nat) (h : 3 ≤ k) : (a.take k).take 3 = a.take 3 := by rw [List.take_take, Nat.min_eq_left h]
set_option maxRecDepth 100000 in
set_option maxHeartbeats 8000000 in
/-- **reply** -/
theorem reply_any (A : Option Addr) (c : Nat) (l : List UInt8) (w : World) (hlen : l.length ≤ 4000000) (hml : ML w) (h : SB w (.slice A l.length c) l) :
    Calls Try.prog 49 #[.slice A l.length c] w fun e w' => e = .returned (.tuple #[.int .i64 (rpC (rp l) : Int), .int .i64 (rpU (rp l) : Int)]) ∧ Below w.heap.size w w' := by
  have kc := fun (w : World) (C : Array Value) (n c : Nat) => Lib.run_convert_bytes_const (P := Try.prog) w 22 5 C n c Try.underlying22 Try.underlying5
  obtain ⟨n, hn⟩ : ∃ n, l.length = n := ⟨_, rfl⟩
  have hcap : l.length ≤ c ∧ c ≤ 9223372036854775807 := by obtain ⟨A', c', e, h1, h2, _⟩ := h.form; cases e; exact ⟨h1, h2⟩
  obtain ⟨R, hR⟩ : ∃ R, rp l = R := ⟨_, rfl⟩
  rw [hR]
  have hR0 : Hid (rpL (l.take 3) (lns (l.drop 0)) 0 = R) := hR
  rw [hn] at hcap hlen ⊢
  rw [hn] at h
  have HS := Lib.hid h
  have HN := Lib.hid hn
  clear h hR hn
  go_enter Try.func49, Try.ntmps49
  go_wp2
  go_loopw [4] (fun i wr => ∃ u : Nat, (i = .int .i64 (u : Int) ∧ u ≤ n) ∧ Hid (rpL (l.take 3) (lns (l.drop u)) u = R) ∧ Mine w.heap.size w wr) (fun i _ => n - (intOf i).toNat)
  case atStart => exact ⟨0, ⟨rfl, Nat.zero_le _⟩, hR0, Mine.refl w⟩
  case round =>
    clear hR0
    obtain ⟨u, ⟨rfl, hu⟩, hrp, hmi⟩ := hrel
    obtain ⟨m, hm⟩ : ∃ m, n - u = m := ⟨_, rfl⟩
    obtain ⟨d, hd⟩ : ∃ d, c - u = d := ⟨_, rfl⟩
    have hs1 := HS.out.below hmi.bel
    have hsu : SB wr (.slice (cutA A c u) m d) (l.drop u) := hs1.cut1 u m d (by rw [HN.out]; omega) (by rw [HN.out]; omega) hd.symm
    have hlu : (l.drop u).length = m := by rw [List.length_drop, HN.out]; exact hm
    have hba : Below wr.heap.size wr (wr.alloc (.cells #[.int .u8 13, .int .u8 10] 5 (2, 3))) := (Below.refl _ _).alloc (Nat.le_refl _) _
    have hml1 := (hml.below hmi.bel).below hba
    have hs2 := hsu.below hba
    have hs0 := hs1.below hba
    have hmi1 := hmi.alloc (.cells #[.int .u8 13, .int .u8 10] 5 (2, 3))
    have ks := fun w => slice_run1 A n c u hu (u : Int) rfl m d hm.symm hd.symm w
    have hlu4 : (l.drop u).length ≤ 4000000 := by rw [hlu]; omega
    have hcn := fun hf => bcut_none (cutA A c u) d (l.drop u) wr.heap.size 2 _ (by rw [hlu]; exact hs2) hlu4 hml1 (SB_end wr (2, 3)) hf
    have hcs := fun a b hf => bcut_some (cutA A c u) d (l.drop u) a b wr.heap.size 2 _ (by rw [hlu]; exact hs2) hlu4 hml1 (SB_end wr (2, 3)) hf
    rw [hlu] at hcn hcs
    have HMI := Lib.hid hmi1
    have HS2 := Lib.hid hs2
    have HS0 := Lib.hid hs0
    have HLU := Lib.hid hlu
    obtain ⟨w1, hw1⟩ : ∃ w1, wr.alloc (.cells #[.int .u8 13, .int .u8 10] 5 (2, 3)) = w1 := ⟨_, rfl⟩
    rw [hw1] at hcn hcs HMI HS2 HS0
    have hdm : d ≤ 9223372036854775807 ∧ m ≤ d := by omega
    clear hs1 hsu hba hml1 hs2 hmi1 hmi hs0 hlu hlu4
    cases hf : fl (l.drop u) with
    | none =>
      have HC := Lib.hid (hcn hf)
      have hRn : R = none := by rw [← hrp.out, lns_none _ hf]; rfl
      subst hRn
      clear hcn hcs hf hrp hm hd
      go_wp2_with fail
      first | (rw [hw1]) | skip
      refine HC.out.mono ?_
      rintro e w2 ⟨rfl, hb2⟩
      have HB2 := Lib.hid (HMI.out.call hb2)
      clear hb2
      go_wp2_with fail
      go_quiet (fail)
      go_wp2
      go_ret2
      exact ⟨rfl, below_drewN HB2.out.bel _⟩
    | some ab =>
      obtain ⟨a, b⟩ := ab
      have HC := Lib.hid (hcs a b hf)
      have hrq := hrp.out
      rw [lns_some _ _ _ hf, rpL_cons, codeB_parts] at hrq
      have hfl := fl_len hf
      have htk := fl_take hf
      have hb' : l.drop (u + a.length) = b := by rw [← List.drop_drop]; exact htk.2
      rw [HLU.out] at hfl
      obtain ⟨p, hp⟩ : ∃ p, a.length = p := ⟨_, rfl⟩
      obtain ⟨q, hq⟩ : ∃ q, p - 2 = q := ⟨_, rfl⟩
      rw [hp] at hfl hrq hb'
      rw [hp, hq] at HC
      have hpm : p ≤ m := by omega
      have hsx : SB w1 (.slice (cutA A c u) q d) (a.take q) := by
        have := HS2.out.take q (by rw [HLU.out]; omega) (.inr trivial)
        have e : (l.drop u).take q = a.take q := by
          have h3 := htk.1
          rw [hp] at h3
          rw [← h3, List.take_take, Nat.min_eq_left (by omega)]
        rwa [e] at this
      have hlx : (a.take q).length = q := by simp; omega
      have HLX := Lib.hid hlx
      have HRQ := Lib.hid hrq
      have HSX := Lib.hid hsx
      have HB := Lib.hid hb'
      have HP := Lib.hid hp
      have hq2 : p = q + 2 := by omega
      have hup : u + p ≤ n := by omega
      clear hcn hcs hf hrp hfl htk hb' hsx hlx hrq hp hq
      by_cases h3 : q < 3
      · have d3 : decide (q < 3) = true := decide_eq_true h3
        have d3' : decide ((q : Int) < 3) = true := decide_eq_true (by omega)
        have hRn : R = none := by rw [← HRQ.out, decide_eq_false (show ¬ 5 ≤ p by omega)]; rfl
        subst hRn
        clear hm hd hq2 hup hpm
        go_wp2_with fail
        first | (rw [hw1]) | skip
        refine HC.out.mono ?_
        rintro e w2 ⟨rfl, hb2⟩
        have HB2 := Lib.hid (HMI.out.call hb2)
        clear hb2
        go_wp2_with fail
        go_quiet (fail)
        go_wp2
        go_ret2
        exact ⟨rfl, below_drewN HB2.out.bel _⟩
      · have d3 : decide (q < 3) = false := decide_eq_false h3
        have d3' : decide ((q : Int) < 3) = false := decide_eq_false (by omega)
        have hg : ∀ i, i < q → gb (a.take q) i = gb a i := fun i hi => gb_take _ _ _ hi
        have hcell : ∀ w', Below w1.heap.size w1 w' → ∃ g o, cutA A c u = some ⟨g, o, none⟩ ∧ ∀ i, i < q → w'.cell? ⟨g, o + i, none⟩ = some (.int .u8 (gb a i : Int)) := by
          intro w' hb
          rcases HSX.out.below hb with ⟨e, e2⟩ | ⟨ad, c', e, _, _, hx⟩
          · have := HLX.out; rw [e2] at this; simp at this; omega
          injection e with f1 f2 f3
          obtain ⟨g, o, hA, hc⟩ := hx (by rw [HLX.out]; omega)
          rw [hA] at f1
          replace hA := f1
          exact ⟨g, o, hA, fun i hi => by rw [hc i (by rw [HLX.out]; exact hi), hg i hi]⟩
        have HCELL := Lib.hid hcell
        have hx0 := gb_lt a 0
        have hx1 := gb_lt a 1
        have hx2 := gb_lt a 2
        have hx3 := gb_lt a 3
        have hcodeN : codeN a = (gb a 0 - 48) * 100 + (gb a 1 - 48) * 10 + (gb a 2 - 48) := rfl
        have hlast : lastC a = (decide (p = 5) || decide (gb a 3 = 32)) := by unfold lastC; rw [HP.out]
        obtain ⟨x0, e0⟩ : ∃ x, gb a 0 = x := ⟨_, rfl⟩
        obtain ⟨x1, e1⟩ : ∃ x, gb a 1 = x := ⟨_, rfl⟩
        obtain ⟨x2, e2⟩ : ∃ x, gb a 2 = x := ⟨_, rfl⟩
        obtain ⟨x3, e3⟩ : ∃ x, gb a 3 = x := ⟨_, rfl⟩
        rw [e0] at hx0 hcodeN HRQ
        rw [e1] at hx1 hcodeN HRQ
        rw [e2] at hx2 hcodeN HRQ
        rw [e3] at hx3 hlast HRQ
        have hc0 : ∀ w', Below w1.heap.size w1 w' → ∃ g o, cutA A c u = some ⟨g, o, none⟩ ∧ w'.cell? ⟨g, o, none⟩ = some (.int .u8 (x0 : Int)) ∧ w'.cell? ⟨g, o + 1, none⟩ = some (.int .u8 (x1 : Int)) ∧ w'.cell? ⟨g, o + 2, none⟩ = some (.int .u8 (x2 : Int)) ∧ (3 < q → w'.cell? ⟨g, o + 3, none⟩ = some (.int .u8 (x3 : Int))) := by
          intro w' hb
          obtain ⟨g, o, hA, hc⟩ := HCELL.out w' hb
          exact ⟨g, o, hA, by have := hc 0 (by omega); rw [e0] at this; exact this, by have := hc 1 (by omega); rw [e1] at this; exact this, by have := hc 2 (by omega); rw [e2] at this; exact this, fun h3 => by have := hc 3 h3; rw [e3] at this; exact this⟩
        have HC0 := Lib.hid hc0
        have HCN := Lib.hid hcodeN
        have HLC := Lib.hid hlast
        have hD0 : ∀ w, Calls Try.prog 78 #[.int .u8 (x0 : Int), .int .u8 50, .int .u8 53] w fun e w' => e = .returned (.bool (decide (50 ≤ x0) && decide (x0 ≤ 53))) ∧ w' = w := fun w => digit_any x0 50 53 w
        have hD1 : ∀ w, Calls Try.prog 78 #[.int .u8 (x1 : Int), .int .u8 48, .int .u8 57] w fun e w' => e = .returned (.bool (decide (48 ≤ x1) && decide (x1 ≤ 57))) ∧ w' = w := fun w => digit_any x1 48 57 w
        have hD2 : ∀ w, Calls Try.prog 78 #[.int .u8 (x2 : Int), .int .u8 48, .int .u8 57] w fun e w' => e = .returned (.bool (decide (48 ≤ x2) && decide (x2 ≤ 57))) ∧ w' = w := fun w => digit_any x2 48 57 w
        obtain ⟨q0, hq0⟩ : ∃ b, (decide (50 ≤ x0) && decide (x0 ≤ 53)) = b := ⟨_, rfl⟩
        obtain ⟨q1, hq1⟩ : ∃ b, (decide (48 ≤ x1) && decide (x1 ≤ 57)) = b := ⟨_, rfl⟩
        obtain ⟨q2, hq2'⟩ : ∃ b, (decide (48 ≤ x2) && decide (x2 ≤ 57)) = b := ⟨_, rfl⟩
        obtain ⟨q3, hq3⟩ : ∃ b, decide (a.take 3 = l.take 3) = b := ⟨_, rfl⟩
        rw [hq0, hq1, hq2', hq3, decide_eq_true (show 5 ≤ p by omega), Bool.true_and] at HRQ
        rw [hq0] at hD0
        rw [hq1] at hD1
        rw [hq2'] at hD2
        have hl3 : 3 ≤ l.length := by have := HN.out; omega
        have hEq : ∀ w', Below w1.heap.size w1 w' → ∀ n', Calls Try.prog 79 #[.slice (cutA A c u) 3 d, .slice A 3 c] (w'.drewN n') fun e w'' => e = .returned (.bool q3) ∧ w'' = w'.drewN n' := by
          intro w' hb n'
          have h1 := (HSX.out.below (W' := w'.drewN n') (below_drewN hb n')).take 3 (by rw [HLX.out]; omega) (.inr trivial)
          rw [take_take3 _ _ (by omega)] at h1
          have h2 := (HS0.out.below (W' := w'.drewN n') (below_drewN hb n')).take 3 hl3 (.inr trivial)
          have := equal_any _ _ _ _ _ _ _ _ (w'.drewN n') h1 h2
          rw [hq3] at this
          exact this
        have HEQ := Lib.hid hEq
        have HD0 := Lib.hid hD0
        have HD1 := Lib.hid hD1
        have HD2 := Lib.hid hD2
        have i3 : (3 : Int) < (q : Int) ∨ q = 3 := by omega
        have i2 : (2 : Int) < (q : Int) := by omega
        have i1 : (1 : Int) < (q : Int) := by omega
        have i0 : (0 : Int) < (q : Int) := by omega
        have j0 : 0 < q := by omega
        have j1 : 1 < q := by omega
        have j2 : 2 < q := by omega
        have ka := fun w => slice_runh (cutA A c u) q d 3 (by omega) (3 : Int) rfl w
        have kb := fun w => slice_runh A n c 3 (by omega) (3 : Int) rfl w
        have HQ0 := Lib.hid hq0
        have HQ1 := Lib.hid hq1
        have HQ2 := Lib.hid hq2'
        clear hcell hg e0 e1 e2 e3 hc0 hcodeN hlast hD0 hD1 hD2 hq0 hq1 hq2' hq3 hEq HCELL hl3
        cases q0 with
        | false =>
          have hRn : R = none := by rw [← HRQ.out]; simp
          subst hRn
          clear hm hd hup hpm
          go_wp2_with fail
          first | (rw [hw1]) | skip
          refine HC.out.mono ?_
          rintro e w2 ⟨rfl, hb2⟩
          obtain ⟨g, o, hA, c0, c1, c2, c3⟩ := HC0.out w2 hb2
          have HE2 := Lib.hid (HEQ.out w2 hb2)
          have HB2 := Lib.hid (HMI.out.call hb2)
          rw [hA] at ka HE2 ⊢
          clear hb2 HC0 HEQ
          go_wp2_with fail
          go_quiet (first | (go_at_call 78; first | with_reducible exact quiet_r (HD0.out _) | with_reducible exact quiet_r (HD1.out _) | with_reducible exact quiet_r (HD2.out _)) | (go_at_call 79; with_reducible exact quiet_r (HE2.out _)))
          go_wp2
          go_ret2
          exact ⟨rfl, below_drewN HB2.out.bel _⟩
        | true =>
          cases q1 with
          | false =>
            have hRn : R = none := by rw [← HRQ.out]; simp
            subst hRn
            clear hm hd hup hpm
            go_wp2_with fail
            first | (rw [hw1]) | skip
            refine HC.out.mono ?_
            rintro e w2 ⟨rfl, hb2⟩
            obtain ⟨g, o, hA, c0, c1, c2, c3⟩ := HC0.out w2 hb2
            have HE2 := Lib.hid (HEQ.out w2 hb2)
            have HB2 := Lib.hid (HMI.out.call hb2)
            rw [hA] at ka HE2 ⊢
            clear hb2 HC0 HEQ
            go_wp2_with fail
            go_quiet (first | (go_at_call 78; first | with_reducible exact quiet_r (HD0.out _) | with_reducible exact quiet_r (HD1.out _) | with_reducible exact quiet_r (HD2.out _)) | (go_at_call 79; with_reducible exact quiet_r (HE2.out _)))
            go_wp2
            go_ret2
            exact ⟨rfl, below_drewN HB2.out.bel _⟩
          | true =>
            cases q2 with
            | false =>
              have hRn : R = none := by rw [← HRQ.out]; simp
              subst hRn
              clear hm hd hup hpm
              go_wp2_with fail
              first | (rw [hw1]) | skip
              refine HC.out.mono ?_
              rintro e w2 ⟨rfl, hb2⟩
              obtain ⟨g, o, hA, c0, c1, c2, c3⟩ := HC0.out w2 hb2
              have HE2 := Lib.hid (HEQ.out w2 hb2)
              have HB2 := Lib.hid (HMI.out.call hb2)
              rw [hA] at ka HE2 ⊢
              clear hb2 HC0 HEQ
              go_wp2_with fail
              go_quiet (first | (go_at_call 78; first | with_reducible exact quiet_r (HD0.out _) | with_reducible exact quiet_r (HD1.out _) | with_reducible exact quiet_r (HD2.out _)) | (go_at_call 79; with_reducible exact quiet_r (HE2.out _)))
              go_wp2
              go_ret2
              exact ⟨rfl, below_drewN HB2.out.bel _⟩
            | true =>
              cases q3 with
              | false =>
                have hRn : R = none := by rw [← HRQ.out]; simp
                subst hRn
                clear hm hd hup hpm
                go_wp2_with fail
                first | (rw [hw1]) | skip
                refine HC.out.mono ?_
                rintro e w2 ⟨rfl, hb2⟩
                obtain ⟨g, o, hA, c0, c1, c2, c3⟩ := HC0.out w2 hb2
                have HE2 := Lib.hid (HEQ.out w2 hb2)
                have HB2 := Lib.hid (HMI.out.call hb2)
                rw [hA] at ka HE2 ⊢
                clear hb2 HC0 HEQ
                go_wp2_with fail
                go_quiet (first | (go_at_call 78; first | with_reducible exact quiet_r (HD0.out _) | with_reducible exact quiet_r (HD1.out _) | with_reducible exact quiet_r (HD2.out _)) | (go_at_call 79; with_reducible exact quiet_r (HE2.out _)))
                go_wp2
                go_ret2
                exact ⟨rfl, below_drewN HB2.out.bel _⟩
              | true =>
                have hrq := HRQ.out
                simp only [Bool.and_true, if_true] at hrq
                have HRR := Lib.hid hrq
                have hx0 : 50 ≤ x0 ∧ x0 ≤ 53 := by have := HQ0.out; simpa using this
                have hx1 : 48 ≤ x1 ∧ x1 ≤ 57 := by have := HQ1.out; simpa using this
                have hx2 : 48 ≤ x2 ∧ x2 ≤ 57 := by have := HQ2.out; simpa using this
                have HUP : Hid ((u : Int) + ((q : Int) + 2) = ((u + p : Nat) : Int)) := by show _ = _; omega
                have y1 : IntKind.i64.wrap ((q : Int) + 2) = (p : Int) := by rw [IntWalk.i64_in _ (by omega)]; omega
                have y2 : IntKind.i64.wrap ((u : Int) + (p : Int)) = ((u + p : Nat) : Int) := by rw [IntWalk.i64_in _ (by omega)]; omega
                by_cases hl : q = 3
                · have hlc : lastC a = true := by rw [HLC.out]; simp; omega
                  rw [hlc, if_pos rfl, HCN.out] at HRR
                  have z0 : ((x0 : Int) - 48) % 256 = (x0 : Int) - 48 := by omega
                  have z1 : ((x1 : Int) - 48) % 256 = (x1 : Int) - 48 := by omega
                  have z2 : ((x2 : Int) - 48) % 256 = (x2 : Int) - 48 := by omega
                  have v0 : IntKind.i64.wrap (((x0 : Int) - 48) * 100) = ((x0 : Int) - 48) * 100 := IntWalk.i64_in _ (by omega)
                  have v1 : IntKind.i64.wrap (((x1 : Int) - 48) * 10) = ((x1 : Int) - 48) * 10 := IntWalk.i64_in _ (by omega)
                  have v2 : IntKind.i64.wrap (((x0 : Int) - 48) * 100 + ((x1 : Int) - 48) * 10) = ((x0 : Int) - 48) * 100 + ((x1 : Int) - 48) * 10 := IntWalk.i64_in _ (by omega)
                  have v3 : IntKind.i64.wrap (((x0 : Int) - 48) * 100 + ((x1 : Int) - 48) * 10 + ((x2 : Int) - 48)) = ((x0 : Int) - 48) * 100 + ((x1 : Int) - 48) * 10 + ((x2 : Int) - 48) := IntWalk.i64_in _ (by omega)
                  have hcode : ((x0 : Int) - 48) * 100 + ((x1 : Int) - 48) * 10 + ((x2 : Int) - 48) = (((x0 - 48) * 100 + (x1 - 48) * 10 + (x2 - 48) : Nat) : Int) := by omega
                  obtain ⟨N, hN⟩ : ∃ N, (x0 - 48) * 100 + (x1 - 48) * 10 + (x2 - 48) = N := ⟨_, rfl⟩
                  rw [hN] at hcode HRR
                  have HCODE := Lib.hid hcode
                  have hRs : R = some (N, u + p) := HRR.out.symm
                  subst hRs
                  have s3 : ((q : Int) == 3) = true := by simp [hl]
                  have s3' : (q == 3) = true := by simp [hl]
                  clear hm hd hcode hl HRR hN
                  go_wp2_with fail
                  first | (rw [hw1]) | skip
                  refine HC.out.mono ?_
                  rintro e w2 ⟨rfl, hb2⟩
                  obtain ⟨g, o, hA, c0, c1, c2, c3⟩ := HC0.out w2 hb2
                  have HE2 := Lib.hid (HEQ.out w2 hb2)
                  have HB2 := Lib.hid (HMI.out.call hb2)
                  rw [hA] at ka HE2 ⊢
                  clear hb2 HC0 HEQ
                  go_wp2_with fail
                  go_quiet (first | (go_at_call 78; first | with_reducible exact quiet_r (HD0.out _) | with_reducible exact quiet_r (HD1.out _) | with_reducible exact quiet_r (HD2.out _)) | (go_at_call 79; with_reducible exact quiet_r (HE2.out _)))
                  go_wp2
                  go_quiet (fail)
                  go_wp2
                  go_ret2
                  exact ⟨by (show Ending.returned (.tuple #[.int .i64 (((x0 : Int) - 48) * 100 + ((x1 : Int) - 48) * 10 + ((x2 : Int) - 48)), .int .i64 ((u : Int) + ((q : Int) + 2))]) = _); rw [HUP.out, HCODE.out]; rfl, below_drewN (below_drewN HB2.out.bel _) _⟩
                · have s3 : ((q : Int) == 3) = false := by simp; omega
                  have s3' : (q == 3) = false := by simp [hl]
                  have j3 : 3 < q := by omega
                  have i3' : (3 : Int) < (q : Int) := by omega
                  clear i3
                  by_cases hx32 : x3 = 32
                  · have hlc : lastC a = true := by rw [HLC.out]; simp [hx32]
                    rw [hlc, if_pos rfl, HCN.out] at HRR
                    have z0 : ((x0 : Int) - 48) % 256 = (x0 : Int) - 48 := by omega
                    have z1 : ((x1 : Int) - 48) % 256 = (x1 : Int) - 48 := by omega
                    have z2 : ((x2 : Int) - 48) % 256 = (x2 : Int) - 48 := by omega
                    have v0 : IntKind.i64.wrap (((x0 : Int) - 48) * 100) = ((x0 : Int) - 48) * 100 := IntWalk.i64_in _ (by omega)
                    have v1 : IntKind.i64.wrap (((x1 : Int) - 48) * 10) = ((x1 : Int) - 48) * 10 := IntWalk.i64_in _ (by omega)
                    have v2 : IntKind.i64.wrap (((x0 : Int) - 48) * 100 + ((x1 : Int) - 48) * 10) = ((x0 : Int) - 48) * 100 + ((x1 : Int) - 48) * 10 := IntWalk.i64_in _ (by omega)
                    have v3 : IntKind.i64.wrap (((x0 : Int) - 48) * 100 + ((x1 : Int) - 48) * 10 + ((x2 : Int) - 48)) = ((x0 : Int) - 48) * 100 + ((x1 : Int) - 48) * 10 + ((x2 : Int) - 48) := IntWalk.i64_in _ (by omega)
                    have hcode : ((x0 : Int) - 48) * 100 + ((x1 : Int) - 48) * 10 + ((x2 : Int) - 48) = (((x0 - 48) * 100 + (x1 - 48) * 10 + (x2 - 48) : Nat) : Int) := by omega
                    obtain ⟨N, hN⟩ : ∃ N, (x0 - 48) * 100 + (x1 - 48) * 10 + (x2 - 48) = N := ⟨_, rfl⟩
                    rw [hN] at hcode HRR
                    have HCODE := Lib.hid hcode
                    have hRs : R = some (N, u + p) := HRR.out.symm
                    subst hRs
                    have s4 : ((x3 : Int) == 32) = true := by simp [hx32]
                    have s4' : (x3 == 32) = true := by simp [hx32]
                    clear hm hd hcode hl HRR hN hx32
                    go_wp2_with fail
                    first | (rw [hw1]) | skip
                    refine HC.out.mono ?_
                    rintro e w2 ⟨rfl, hb2⟩
                    obtain ⟨g, o, hA, c0, c1, c2, c3⟩ := HC0.out w2 hb2
                    have HE2 := Lib.hid (HEQ.out w2 hb2)
                    have HB2 := Lib.hid (HMI.out.call hb2)
                    rw [hA] at ka HE2 ⊢
                    have c3' := c3 j3
                    clear hb2 HC0 HEQ c3
                    go_wp2_with fail
                    go_quiet (first | (go_at_call 78; first | with_reducible exact quiet_r (HD0.out _) | with_reducible exact quiet_r (HD1.out _) | with_reducible exact quiet_r (HD2.out _)) | (go_at_call 79; with_reducible exact quiet_r (HE2.out _)))
                    go_wp2
                    go_quiet (fail)
                    go_wp2
                    go_ret2
                    exact ⟨by (show Ending.returned (.tuple #[.int .i64 (((x0 : Int) - 48) * 100 + ((x1 : Int) - 48) * 10 + ((x2 : Int) - 48)), .int .i64 ((u : Int) + ((q : Int) + 2))]) = _); rw [HUP.out, HCODE.out]; rfl, below_drewN (below_drewN HB2.out.bel _) _⟩
                  · have hlc : lastC a = false := by rw [HLC.out]; simp [hx32]; omega
                    rw [hlc, if_neg (by decide)] at HRR
                    have s4 : ((x3 : Int) == 32) = false := by simp; omega
                    have s4' : (x3 == 32) = false := by simp [hx32]
                    by_cases hx45 : x3 = 45
                    · rw [if_pos hx45] at HRR
                      have s5 : ((x3 : Int) != 45) = false := by simp [hx45]
                      have s5' : (x3 != 45) = false := by simp [hx45]
                      have hnext : Hid (rpL (l.take 3) (lns (l.drop (u + p))) (u + p) = R) := by show _ = _; rw [HB.out]; exact HRR.out
                      clear hm hd hl HRR hx32 hx45
                      go_wp2_with fail
                      first | (rw [hw1]) | skip
                      refine HC.out.mono ?_
                      rintro e w2 ⟨rfl, hb2⟩
                      obtain ⟨g, o, hA, c0, c1, c2, c3⟩ := HC0.out w2 hb2
                      have HE2 := Lib.hid (HEQ.out w2 hb2)
                      have HB2 := Lib.hid (HMI.out.call hb2)
                      rw [hA] at ka HE2 ⊢
                      have c3' := c3 j3
                      clear hb2 HC0 HEQ c3
                      go_wp2_with fail
                      go_quiet (first | (go_at_call 78; first | with_reducible exact quiet_r (HD0.out _) | with_reducible exact quiet_r (HD1.out _) | with_reducible exact quiet_r (HD2.out _)) | (go_at_call 79; with_reducible exact quiet_r (HE2.out _)))
                      go_wp2
                      go_roundw
                      case rel => exact ⟨u + p, ⟨by first | rfl | (show Value.int .i64 ((u : Int) + ((q : Int) + 2)) = _; rw [HUP.out]), by omega⟩, hnext, HB2.out.callN (below_drewN (Below.refl _ _) _) HB2.out.le⟩
                      case measure => simp [intOf]; omega
                    · rw [if_neg hx45] at HRR
                      have s5 : ((x3 : Int) != 45) = true := by simp; omega
                      have s5' : (x3 != 45) = true := by simp [hx45]
                      have hRn : R = none := HRR.out.symm
                      subst hRn
                      clear hm hd hl HRR hx32 hx45
                      go_wp2_with fail
                      first | (rw [hw1]) | skip
                      refine HC.out.mono ?_
                      rintro e w2 ⟨rfl, hb2⟩
                      obtain ⟨g, o, hA, c0, c1, c2, c3⟩ := HC0.out w2 hb2
                      have HE2 := Lib.hid (HEQ.out w2 hb2)
                      have HB2 := Lib.hid (HMI.out.call hb2)
                      rw [hA] at ka HE2 ⊢
                      have c3' := c3 j3
                      clear hb2 HC0 HEQ c3
                      go_wp2_with fail
                      go_quiet (first | (go_at_call 78; first | with_reducible exact quiet_r (HD0.out _) | with_reducible exact quiet_r (HD1.out _) | with_reducible exact quiet_r (HD2.out _)) | (go_at_call 79; with_reducible exact quiet_r (HE2.out _)))
                      go_wp2
                      go_ret2
                      exact ⟨rfl, below_drewN HB2.out.bel _⟩
end Go.Proofs.Ytlgodokgebjjaaa

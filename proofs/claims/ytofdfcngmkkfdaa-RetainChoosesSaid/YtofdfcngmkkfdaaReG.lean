/- awake of law13; RetainUntil, RetainMore, RetainOver, RetainEver. -/
import Derived.RangeFuncNested
import Derived.RangeFuncBound
import Derived.RangeFuncCalls
import Derived.RangeFuncLeaves
import Derived.Shelf.Abstract
import Derived.Shelf.RegionOpen
import Derived.WalkKit
import Derived.OwnWalkIn
import Derived.TacticsInMore
import Derived.LoopNIn
import Derived.LoopIn
import Derived.Outline
import Derived.Lib.Hide
import Derived.Lib.SliceRun
import Derived.IntWalk
import Derived.WalkLawsBesides
import Derived.WalkSpells
import Derived.Laws.BitsAllLaws
import Derived.Lib.ConvBytes
import Derived.Maps.AppendAt
import Derived.Lib.AppendStr
import Derived.Lib.SlBytesConst
import Derived.Laws.AppendOwnNone
import Derived.Laws.OwnMore
import Derived.Laws.BytesArg
import Derived.Deep.RegionHeld3
import Derived.BigQuiet
import Derived.Deep.RegionLaw
import Derived.Deep.QuietTactic
import Derived.Lib.OthersKept
import Derived.Test.YtofdfcngmkkfdaaProg
import Derived.Deep.DeepFit
import Derived.Test.YtofdfcngmkkfdaaReF
set_option linter.unusedVariables false
set_option linter.unusedSimpArgs false
namespace Go.Proofs.Ytofdfcngmkkfdaa
open Go Go.RowKit Go.Shelf

theorem onB {a w w' : World} (h : Below a.heap.size a w) (hb : Below w.heap.size w w') : Below a.heap.size a w' := h.trans (hb.mono h.size)
set_option maxRecDepth 100000 in
set_option maxHeartbeats 2000000 in
theorem awake13_any (w : World) : Calls Try.prog 26 #[] w fun e w' => e = .returned (.bool true) ∧ Below w.heap.size w w' := by
  have hu : ∀ w, Calls Try.prog 30 #[.int .i64 9223372036854775803, .int .i64 10] w fun e w' => e = .returned (.int .i64 9223372036854775807) ∧ w' = w := fun w => by
    have := until_any 9223372036854775803 10 (by unfold in64; omega) (by unfold in64; omega) w
    rw [show untN 9223372036854775803 10 = 9223372036854775807 by decide] at this
    exact this
  obtain ⟨B, hB⟩ : ∃ B, w.heap.size = B := ⟨_, rfl⟩
  have b0 : Below w.heap.size w (w.alloc (.cells #[.string ⟨#[97]⟩, .int .i64 5] 56)) := (Below.refl _ _).alloc (Nat.le_refl _) _
  have r0 : Row (w.alloc (.cells #[.string ⟨#[97]⟩, .int .i64 5] 56)) B 56 [.string ⟨#[97]⟩, .int .i64 5] := by rw [← hB]; exact Row.new w _ _
  have hcl : ∀ W, Row W B 56 [.string ⟨#[97]⟩, .int .i64 5] → PV W (.slice (some ⟨B, 0, none⟩) 1 1) (clV [(⟨#[97]⟩, 5)]) := fun W h => by
    refine ⟨_, 1, rfl, ⟨Nat.le_refl _, by show (1 : Nat) ≤ _; omega⟩, fun i x hx => ?_⟩
    cases i with
    | zero => cases hx; exact ⟨B, 0, rfl, h.cell0, h.cell1⟩
    | succ i => simp [clV] at hx
  have hcs : ∀ c ∈ ([(⟨#[97]⟩, 5)] : List Cl), in64 c.2 ∧ c.1.size ≤ maxLen := by
    intro c hc
    simp at hc
    subst hc
    exact ⟨by unfold in64; omega, by unfold maxLen; decide⟩
  have hck : ∀ W, Row W B 56 [.string ⟨#[97]⟩, .int .i64 5] → Calls Try.prog 28 #[.slice (some ⟨B, 0, none⟩) 1 1, .slice none 0 0] W fun e w' => e = .returned (.int .i64 0) ∧ Below W.heap.size W w' := fun W h => by
    have := check_any _ [(⟨#[97]⟩, 5)] (.slice none 0 0) [] W (hcl W h) hcs (PV.nil W) (by simp)
    rw [show checkE [(⟨#[97]⟩, 5)] [] = 0 by decide +kernel] at this
    exact this
  have hov : ∀ (n : Int) (b : Bool), overB [(⟨#[97]⟩, 5)] ⟨#[97]⟩ 10 n = b → ∀ W, Row W B 56 [.string ⟨#[97]⟩, .int .i64 5] → Calls Try.prog 32 #[.slice (some ⟨B, 0, none⟩) 1 1, .string ⟨#[97]⟩, .int .i64 10, .int .i64 n] W fun e w' => e = .returned (.bool b) ∧ Below W.heap.size W w' := fun n b hb W h => by
    have := over_any _ [(⟨#[97]⟩, 5)] ⟨#[97]⟩ 10 n W (hcl W h) (fun c hc => (hcs c hc).1) (by unfold in64; omega)
    rw [hb] at this
    exact this
  have HU := Lib.hid hu
  have HC := Lib.hid hck
  have HO1 := Lib.hid (hov 15 true (by decide +kernel))
  have HO2 := Lib.hid (hov 14 false (by decide +kernel))
  have R0 := Lib.hid r0
  have B0 := Lib.hid b0
  clear hu hcl hcs hck hov r0 b0
  go_enter Try.func26, Try.ntmps26
  go_wp2_with fail
  refine (HU.out _).mono ?_
  rintro e w' ⟨rfl, rfl⟩
  go_wp2_with fail
  refine (HC.out _ R0.out).mono ?_
  rintro e w1 ⟨rfl, hb1⟩
  have R1 := Lib.hid (R0.out.belowS hb1)
  have B1 := Lib.hid (onB B0.out hb1)
  clear hb1
  go_wp2_with fail
  refine (HO1.out _ R1.out).mono ?_
  rintro e w2 ⟨rfl, hb2⟩
  have R2 := Lib.hid (R1.out.belowS hb2)
  have B2 := Lib.hid (onB B1.out hb2)
  clear hb2
  go_wp2_with fail
  refine (HO2.out _ R2.out).mono ?_
  rintro e w3 ⟨rfl, hb3⟩
  have B3 := Lib.hid (onB B2.out hb3)
  clear hb3
  go_wp2
  go_ret
  exact ⟨rfl, by first | exact B3.out | (rw [hB]; exact B3.out) | (rw [← hB]; exact B3.out)⟩

def few13B (n m t : Nat) : Bool := decide (n ≤ 101) && decide (m ≤ 101) && decide (t ≤ 20)
set_option maxRecDepth 100000 in
set_option maxHeartbeats 2000000 in
theorem few13_any (A A' A'' : Option Addr) (n m t c c' c'' : Nat) (f : ByteArray) (a : Int) (w : World) :
    Calls Try.prog 27 #[.slice A n c, .slice A' m c', .agg #[.string f, .slice A'' t c'', .int .i64 a]] w fun e w' => e = .returned (.bool (few13B n m t)) ∧ Below w.heap.size w w' := by
  have b0 : Below w.heap.size w (w.alloc (.cells #[.string f, .slice A'' t c'', .int .i64 a] 33)) := (Below.refl _ _).alloc (Nat.le_refl _) _
  have B0 := Lib.hid b0
  clear b0
  by_cases h1 : n ≤ 101
  · have d1 : decide (n ≤ 101) = true := decide_eq_true h1
    have d2 : decide ((n : Int) ≤ 101) = true := decide_eq_true (by omega)
    by_cases h2 : m ≤ 101
    · have d3 : decide (m ≤ 101) = true := decide_eq_true h2
      have d4 : decide ((m : Int) ≤ 101) = true := decide_eq_true (by omega)
      by_cases h3 : t ≤ 20
      · have d5 : decide (t ≤ 20) = true := decide_eq_true h3
        have d6 : decide ((t : Int) ≤ 20) = true := decide_eq_true (by omega)
        have e : few13B n m t = true := by unfold few13B; rw [d1, d3, d5]; rfl
        rw [e]
        clear e
        go_enter Try.func27, Try.ntmps27
        go_wp2
        go_ret
        exact ⟨rfl, B0.out⟩
      · have d5 : decide (t ≤ 20) = false := decide_eq_false h3
        have d6 : decide ((t : Int) ≤ 20) = false := decide_eq_false (by omega)
        have e : few13B n m t = false := by unfold few13B; rw [d1, d3, d5]; rfl
        rw [e]
        clear e
        go_enter Try.func27, Try.ntmps27
        go_wp2
        go_ret
        exact ⟨rfl, B0.out⟩
    · have d3 : decide (m ≤ 101) = false := decide_eq_false h2
      have d4 : decide ((m : Int) ≤ 101) = false := decide_eq_false (by omega)
      have e : few13B n m t = false := by unfold few13B; rw [d1, d3]; rfl
      rw [e]
      clear e
      go_enter Try.func27, Try.ntmps27
      go_wp2
      go_ret
      exact ⟨rfl, B0.out⟩
  · have d1 : decide (n ≤ 101) = false := decide_eq_false h1
    have d2 : decide ((n : Int) ≤ 101) = false := decide_eq_false (by omega)
    have e : few13B n m t = false := by unfold few13B; rw [d1]; rfl
    rw [e]
    clear e
    go_enter Try.func27, Try.ntmps27
    go_wp2
    go_ret
    exact ⟨rfl, B0.out⟩

set_option maxRecDepth 100000 in
set_option maxHeartbeats 2000000 in
theorem retainUntil_walk (a k : Int) (w : World) (ha : (Lit.int .i64 a).wf = true) (hk : (Lit.int .i64 k).wf = true) :
    Calls Try.prog 7 #[.int .i64 a, .int .i64 k] w fun e w' => e = .returned (.bool true) ∧ Below w.heap.size w w' := by
  have h1 := fun w => until_any a k (in64_of ha) (in64_of hk) w
  have h2 := fun w => runtil_any a k (in64_of ha) (in64_of hk) w
  obtain ⟨u, hu⟩ : ∃ u, untN a k = u := ⟨_, rfl⟩
  simp only [hu] at h1 h2
  have H1 := Lib.hid h1
  have H2 := Lib.hid h2
  have ee : (u == u) = true := beq_self_eq_true _
  clear h1 h2 hu ha hk
  go_enter Try.func7, Try.ntmps7
  go_wp2_with fail
  refine (awake13_any _).mono ?_
  rintro e w1 ⟨rfl, b1⟩
  go_wp2_with fail
  refine (H1.out _).mono ?_
  rintro e w' ⟨rfl, rfl⟩
  go_wp2_with fail
  refine (H2.out _).mono ?_
  rintro e w' ⟨rfl, rfl⟩
  go_wp2
  go_ret
  exact ⟨rfl, b1⟩
set_option maxRecDepth 100000 in
set_option maxHeartbeats 2000000 in
theorem retainMore_walk (a k t m : Int) (w : World) (ha : (Lit.int .i64 a).wf = true) (hk : (Lit.int .i64 k).wf = true) (ht : (Lit.int .i64 t).wf = true) (hm : (Lit.int .i64 m).wf = true) :
    Calls Try.prog 10 #[.int .i64 a, .int .i64 k, .int .i64 t, .int .i64 m] w fun e w' => e = .returned (.bool true) ∧ Below w.heap.size w w' := by
  have ha := in64_of ha
  have hk := in64_of hk
  have ht := in64_of ht
  have hm := in64_of hm
  have h1 := fun w => until_any a k ha hk w
  have h2 := fun w => until_any t m ht hm w
  by_cases c1 : t < a
  · have d1 : decide (t < a) = true := decide_eq_true c1
    go_enter Try.func10, Try.ntmps10
    go_wp2_with fail
    refine (awake13_any _).mono ?_
    rintro e w1 ⟨rfl, b1⟩
    clear h1 h2 ha hk ht hm
    go_wp2
    go_ret
    exact ⟨rfl, b1⟩
  by_cases c2 : m < k
  · have d1 : decide (t < a) = false := decide_eq_false c1
    have d2 : decide (m < k) = true := decide_eq_true c2
    go_enter Try.func10, Try.ntmps10
    go_wp2_with fail
    refine (awake13_any _).mono ?_
    rintro e w1 ⟨rfl, b1⟩
    clear h1 h2 ha hk ht hm
    go_wp2
    go_ret
    exact ⟨rfl, b1⟩
  have p1 : untN a k ≤ untN t m := by unfold untN in64 at *; split <;> split <;> omega
  have p2 : a ≤ untN a k := by unfold untN in64 at *; split <;> omega
  obtain ⟨u, hu⟩ : ∃ u, untN a k = u := ⟨_, rfl⟩
  obtain ⟨v, hv⟩ : ∃ v, untN t m = v := ⟨_, rfl⟩
  simp only [hu] at h1
  simp only [hv] at h2
  rw [hu, hv] at p1
  rw [hu] at p2
  have d1 : decide (t < a) = false := decide_eq_false c1
  have d2 : decide (m < k) = false := decide_eq_false c2
  have d3 : decide (u ≤ v) = true := decide_eq_true p1
  have d4 : decide (a ≤ u) = true := decide_eq_true p2
  have H1 := Lib.hid h1
  have H2 := Lib.hid h2
  clear h1 h2 hu hv ha hk ht hm p1 p2 c1 c2
  go_enter Try.func10, Try.ntmps10
  go_wp2_with fail
  refine (awake13_any _).mono ?_
  rintro e w1 ⟨rfl, b1⟩
  go_wp2_with fail
  refine (H1.out _).mono ?_
  rintro e w' ⟨rfl, rfl⟩
  go_wp2_with fail
  refine (H2.out _).mono ?_
  rintro e w' ⟨rfl, rfl⟩
  go_wp2_with fail
  refine (H1.out _).mono ?_
  rintro e w' ⟨rfl, rfl⟩
  go_wp2
  go_ret
  exact ⟨rfl, b1⟩
set_option maxRecDepth 100000 in
set_option maxHeartbeats 2000000 in
theorem retainOver_walk (v : Value) (cs : List Cl) (s : ByteArray) (a n : Int) (w : World) (hv : PV w v (clV cs) ∧ ∀ c ∈ cs, in64 c.2 ∧ c.1.size ≤ maxLen) (hs : s.size ≤ maxLen) (ha : (Lit.int .i64 a).wf = true) (hn : (Lit.int .i64 n).wf = true) :
    Calls Try.prog 8 #[v, .string s, .int .i64 a, .int .i64 n] w fun e w' => e = .returned (.bool true) ∧ Below w.heap.size w w' := by
  obtain ⟨hv, hcs⟩ := hv
  have h1 := fun w' (hb : Below w.heap.size w w') => over_any v cs s a n w' (hv.below hb) (fun c hc => (hcs c hc).1) (in64_of ha)
  have h2 := fun w' (hb : Below w.heap.size w w') => rover_any v cs s a n w' (hv.below hb) (fun c hc => (hcs c hc).1) (in64_of ha)
  obtain ⟨A, c, rfl, -, -⟩ := hv
  obtain ⟨q, hq⟩ : ∃ q, overB cs s a n = q := ⟨_, rfl⟩
  simp only [hq] at h1 h2
  rw [clV_len] at h1 h2 ⊢
  obtain ⟨N, hN⟩ : ∃ N, cs.length = N := ⟨_, rfl⟩
  rw [hN] at h1 h2 ⊢
  have hf : ∀ w, Calls Try.prog 27 #[.slice A N c, .slice none 0 0, .agg #[.string ByteArray.empty, .slice none 0 0, .int .i64 0]] w fun e w' => e = .returned (.bool (few13B N 0 0)) ∧ Below w.heap.size w w' := fun w => few13_any A none none N 0 0 c 0 0 ByteArray.empty 0 w
  obtain ⟨fb, hfb⟩ : ∃ fb, few13B N 0 0 = fb := ⟨_, rfl⟩
  simp only [hfb] at hf
  have H1 := Lib.hid h1
  have H2 := Lib.hid h2
  have HF := Lib.hid hf
  have ee : (q == q) = true := beq_self_eq_true _
  clear h1 h2 hf hq hN hfb hcs ha hn hs
  cases fb with
  | false =>
    go_enter Try.func8, Try.ntmps8
    go_wp2_with fail
    refine (awake13_any _).mono ?_
    rintro e w1 ⟨rfl, b1⟩
    go_wp2_with fail
    refine (HF.out _).mono ?_
    rintro e w2 ⟨rfl, b2⟩
    go_wp2
    go_ret
    exact ⟨rfl, onB b1 b2⟩
  | true =>
    go_enter Try.func8, Try.ntmps8
    go_wp2_with fail
    refine (awake13_any _).mono ?_
    rintro e w1 ⟨rfl, b1⟩
    go_wp2_with fail
    refine (HF.out _).mono ?_
    rintro e w2 ⟨rfl, b2⟩
    have c2 := onB b1 b2
    go_wp2_with fail
    refine (H1.out _ c2).mono ?_
    rintro e w3 ⟨rfl, b3⟩
    have c3 := onB c2 b3
    go_wp2_with fail
    refine (H2.out _ c3).mono ?_
    rintro e w4 ⟨rfl, b4⟩
    have c4 := onB c3 b4
    clear b1 b2 b3 b4 c2 c3
    go_wp2
    go_ret
    exact ⟨rfl, c4⟩

theorem clsN_keep {cs : List Cl} : ∀ n, clsN cs n = true → ∀ k, k < n → ∀ h : k < cs.length, 1 ≤ cs[k].2
  | 0, _, k, hk, _ => absurd hk (by omega)
  | n + 1, hc, k, hk, h => by
    unfold clsN at hc
    simp only [Bool.and_eq_true] at hc
    by_cases e : k = n
    · subst e
      have := hc.2
      rw [List.getElem?_eq_getElem h, Option.getD_some] at this
      unfold clsB at this
      simp only [Bool.and_eq_true, decide_eq_true_eq] at this
      exact this.2
    · exact clsN_keep n hc.1 k (by omega) h
theorem ever_law {cs : List Cl} {s : ByteArray} {a n : Int} (hcs : ∀ c ∈ cs, in64 c.2) (ha : in64 a) (ho : overB cs s a n = true) (hc : checkE cs [] = 0) : (a < n ∨ n = 9223372036854775807 ∨ 9223372036854775807 < n) ∧ ∀ t, n ≤ t → overB cs s a t = true := by
  unfold overB at ho ⊢
  cases e : findC cs s with
  | none => rw [e] at ho; cases ho
  | some c =>
    rw [e] at ho
    simp only [decide_eq_true_eq] at ho
    refine ⟨?_, fun t ht => decide_eq_true (by omega)⟩
    have hm := find_mem e
    obtain ⟨k, hk, rfl⟩ := List.mem_iff_getElem.1 hm
    have hin := hcs _ hm
    have hcb : clsN cs cs.length = true := by
      unfold checkE at hc
      split at hc
      · rename_i h; unfold checkB at h; simp only [Bool.and_eq_true] at h; exact h.1.2
      · omega
    have hkp := clsN_keep _ hcb k hk hk
    unfold untN at ho
    unfold in64 at ha hin
    split at ho <;> omega
set_option maxRecDepth 100000 in
set_option maxHeartbeats 4000000 in
theorem retainEver_walk (v : Value) (cs : List Cl) (s : ByteArray) (a n t : Int) (w : World) (hv : PV w v (clV cs) ∧ ∀ c ∈ cs, in64 c.2 ∧ c.1.size ≤ maxLen) (hs : s.size ≤ maxLen) (ha : (Lit.int .i64 a).wf = true) (hn : (Lit.int .i64 n).wf = true) (ht : (Lit.int .i64 t).wf = true) :
    Calls Try.prog 9 #[v, .string s, .int .i64 a, .int .i64 n, .int .i64 t] w fun e w' => e = .returned (.bool true) ∧ Below w.heap.size w w' := by
  obtain ⟨hv, hcs⟩ := hv
  have ha' := in64_of ha
  have hn' := in64_of hn
  have h1 := fun w' (hb : Below w.heap.size w w') => over_any v cs s a n w' (hv.below hb) (fun c hc => (hcs c hc).1) ha'
  have h2 := fun w' (hb : Below w.heap.size w w') => check_any v cs (.slice none 0 0) [] w' (hv.below hb) hcs (PV.nil _) (by simp)
  have h3 := fun w' (hb : Below w.heap.size w w') => over_any v cs s a t w' (hv.below hb) (fun c hc => (hcs c hc).1) ha'
  have hlaw := ever_law (cs := cs) (s := s) (a := a) (n := n) (fun c hc => (hcs c hc).1) ha'
  obtain ⟨A, c, rfl, -, -⟩ := hv
  obtain ⟨q, hq⟩ : ∃ q, overB cs s a n = q := ⟨_, rfl⟩
  obtain ⟨E, hE⟩ : ∃ E, checkE cs [] = E := ⟨_, rfl⟩
  obtain ⟨r, hr⟩ : ∃ r, overB cs s a t = r := ⟨_, rfl⟩
  simp only [hq] at h1 hlaw
  simp only [hE] at h2 hlaw
  simp only [hr] at h3
  rw [clV_len] at h1 h2 h3 ⊢
  obtain ⟨N, hN⟩ : ∃ N, cs.length = N := ⟨_, rfl⟩
  rw [hN] at h1 h2 h3 ⊢
  have hf : ∀ w, Calls Try.prog 27 #[.slice A N c, .slice none 0 0, .agg #[.string ByteArray.empty, .slice none 0 0, .int .i64 0]] w fun e w' => e = .returned (.bool (few13B N 0 0)) ∧ Below w.heap.size w w' := fun w => few13_any A none none N 0 0 c 0 0 ByteArray.empty 0 w
  obtain ⟨fb, hfb⟩ : ∃ fb, few13B N 0 0 = fb := ⟨_, rfl⟩
  simp only [hfb] at hf
  have H1 := Lib.hid h1
  have H2 := Lib.hid h2
  have H3 := Lib.hid h3
  have HF := Lib.hid hf
  have HR := Lib.hid hr
  have HLAW := Lib.hid hlaw
  obtain ⟨n1, n2⟩ := hn'
  clear h1 h2 h3 hf hq hN hfb hcs hn hs hE hr hlaw ha' ha ht
  cases fb with
  | false =>
    go_enter Try.func9, Try.ntmps9
    go_wp2_with fail
    refine (awake13_any _).mono ?_
    rintro e w1 ⟨rfl, b1⟩
    go_wp2_with fail
    refine (HF.out _).mono ?_
    rintro e w2 ⟨rfl, b2⟩
    go_wp2
    go_ret
    exact ⟨rfl, onB b1 b2⟩
  | true =>
    cases q with
    | false =>
      go_enter Try.func9, Try.ntmps9
      go_wp2_with fail
      refine (awake13_any _).mono ?_
      rintro e w1 ⟨rfl, b1⟩
      go_wp2_with fail
      refine (HF.out _).mono ?_
      rintro e w2 ⟨rfl, b2⟩
      have c2 := onB b1 b2
      go_wp2_with fail
      refine (H1.out _ c2).mono ?_
      rintro e w3 ⟨rfl, b3⟩
      have c3 := onB c2 b3
      clear b1 b2 b3 c2
      go_wp2
      go_ret
      exact ⟨rfl, c3⟩
    | true =>
      by_cases hE0 : E = 0
      · subst hE0
        obtain ⟨l1, l2⟩ := HLAW.out rfl rfl
        have HL2 := Lib.hid l2
        clear l2
        by_cases hnt : t < n
        · have d3 : decide (t < n) = true := decide_eq_true hnt
          by_cases han : a < n
          · have d1 : decide (a < n) = true := decide_eq_true han
            go_enter Try.func9, Try.ntmps9
            go_wp2_with fail
            refine (awake13_any _).mono ?_
            rintro e w1 ⟨rfl, b1⟩
            go_wp2_with fail
            refine (HF.out _).mono ?_
            rintro e w2 ⟨rfl, b2⟩
            have c2 := onB b1 b2
            go_wp2_with fail
            refine (H1.out _ c2).mono ?_
            rintro e w3 ⟨rfl, b3⟩
            have c3 := onB c2 b3
            go_wp2_with fail
            refine (H2.out _ c3).mono ?_
            rintro e w4 ⟨rfl, b4⟩
            have c4 := onB c3 b4
            clear b1 b2 b3 b4 c2 c3
            go_wp2
            go_ret
            exact ⟨rfl, c4⟩
          · have hn2 : n = 9223372036854775807 := by omega
            subst hn2
            have d1 : decide (a < 9223372036854775807) = false := decide_eq_false han
            go_enter Try.func9, Try.ntmps9
            go_wp2_with fail
            refine (awake13_any _).mono ?_
            rintro e w1 ⟨rfl, b1⟩
            go_wp2_with fail
            refine (HF.out _).mono ?_
            rintro e w2 ⟨rfl, b2⟩
            have c2 := onB b1 b2
            go_wp2_with fail
            refine (H1.out _ c2).mono ?_
            rintro e w3 ⟨rfl, b3⟩
            have c3 := onB c2 b3
            go_wp2_with fail
            refine (H2.out _ c3).mono ?_
            rintro e w4 ⟨rfl, b4⟩
            have c4 := onB c3 b4
            clear b1 b2 b3 b4 c2 c3
            go_wp2
            go_ret
            exact ⟨rfl, c4⟩
        · have d3 : decide (t < n) = false := decide_eq_false hnt
          have hrt : r = true := by rw [← HR.out]; exact HL2.out t (by omega)
          subst hrt
          by_cases han : a < n
          · have d1 : decide (a < n) = true := decide_eq_true han
            go_enter Try.func9, Try.ntmps9
            go_wp2_with fail
            refine (awake13_any _).mono ?_
            rintro e w1 ⟨rfl, b1⟩
            go_wp2_with fail
            refine (HF.out _).mono ?_
            rintro e w2 ⟨rfl, b2⟩
            have c2 := onB b1 b2
            go_wp2_with fail
            refine (H1.out _ c2).mono ?_
            rintro e w3 ⟨rfl, b3⟩
            have c3 := onB c2 b3
            go_wp2_with fail
            refine (H2.out _ c3).mono ?_
            rintro e w4 ⟨rfl, b4⟩
            have c4 := onB c3 b4
            go_wp2_with fail
            refine (H3.out _ c4).mono ?_
            rintro e w5 ⟨rfl, b5⟩
            have c5 := onB c4 b5
            clear b1 b2 b3 b4 c2 c3 c4 b5
            go_wp2
            go_ret
            exact ⟨rfl, c5⟩
          · have hn2 : n = 9223372036854775807 := by omega
            subst hn2
            have d1 : decide (a < 9223372036854775807) = false := decide_eq_false han
            go_enter Try.func9, Try.ntmps9
            go_wp2_with fail
            refine (awake13_any _).mono ?_
            rintro e w1 ⟨rfl, b1⟩
            go_wp2_with fail
            refine (HF.out _).mono ?_
            rintro e w2 ⟨rfl, b2⟩
            have c2 := onB b1 b2
            go_wp2_with fail
            refine (H1.out _ c2).mono ?_
            rintro e w3 ⟨rfl, b3⟩
            have c3 := onB c2 b3
            go_wp2_with fail
            refine (H2.out _ c3).mono ?_
            rintro e w4 ⟨rfl, b4⟩
            have c4 := onB c3 b4
            go_wp2_with fail
            refine (H3.out _ c4).mono ?_
            rintro e w5 ⟨rfl, b5⟩
            have c5 := onB c4 b5
            clear b1 b2 b3 b4 c2 c3 c4 b5
            go_wp2
            go_ret
            exact ⟨rfl, c5⟩
      · have d1 : (E != 0) = true := by simpa using hE0
        clear hE0
        go_enter Try.func9, Try.ntmps9
        go_wp2_with fail
        refine (awake13_any _).mono ?_
        rintro e w1 ⟨rfl, b1⟩
        go_wp2_with fail
        refine (HF.out _).mono ?_
        rintro e w2 ⟨rfl, b2⟩
        have c2 := onB b1 b2
        go_wp2_with fail
        refine (H1.out _ c2).mono ?_
        rintro e w3 ⟨rfl, b3⟩
        have c3 := onB c2 b3
        go_wp2_with fail
        refine (H2.out _ c3).mono ?_
        rintro e w4 ⟨rfl, b4⟩
        have c4 := onB c3 b4
        clear b1 b2 b3 b4 c2 c3
        go_wp2
        go_ret
        exact ⟨rfl, c4⟩
end Go.Proofs.Ytofdfcngmkkfdaa

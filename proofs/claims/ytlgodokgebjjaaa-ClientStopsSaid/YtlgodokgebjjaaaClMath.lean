/- replies, plain -/
import Derived.RangeFuncNested
import Derived.RangeFuncBound
import Derived.RangeFuncCalls
import Derived.RangeFuncLeaves
import Derived.Shelf.Abstract
import Derived.Shelf.RegionOpen
import Derived.WalkKit
import Derived.OwnWalkIn
import Derived.TacticsInMore
import Derived.LoopNIn
import Derived.LoopIn
import Derived.Outline
import Derived.Lib.Hide
import Derived.Lib.SliceRun
import Derived.IntWalk
import Derived.WalkLawsBesides
import Derived.WalkSpells
import Derived.Laws.BitsAllLaws
import Derived.Lib.ConvBytes
import Derived.Maps.AppendAt
import Derived.Lib.AppendStr
import Derived.Lib.SlBytesConst
import Derived.Laws.AppendOwnNone
import Derived.Laws.OwnMore
import Derived.Laws.BytesArg
import Derived.Deep.RegionHeld3
import Derived.BigQuiet
import Derived.Deep.RegionLaw
import Derived.Deep.QuietTactic
import Derived.Lib.OthersKept
import Derived.Test.YtlgodokgebjjaaaProg
import Derived.Deep.DeepFit
import Derived.Test.YtlgodokgebjjaaaDoMath
set_option linter.unusedVariables false
set_option linter.unusedSimpArgs false
namespace Go.Proofs.Ytlgodokgebjjaaa
open Go Go.RowKit Go.Shelf

/-- whether a line begins with a code -/
def codeB (a : List UInt8) : Bool := decide (5 ≤ a.length) && (decide (50 ≤ gb a 0) && decide (gb a 0 ≤ 53)) && (decide (48 ≤ gb a 1) && decide (gb a 1 ≤ 57)) && (decide (48 ≤ gb a 2) && decide (gb a 2 ≤ 57))
/-- the code -/
def codeN (a : List UInt8) : Nat := (gb a 0 - 48) * 100 + (gb a 1 - 48) * 10 + (gb a 2 - 48)
/-- the last line of a reply -/
def lastC (a : List UInt8) : Bool := decide (a.length = 5) || decide (gb a 3 = 32)
/-- **a reply**, of lines: the code, how many bytes -/
def rpL (h : List UInt8) : List (List UInt8) → Nat → Option (Nat × Nat)
  | [], _ => none
  | a :: t, n => if codeB a && decide (a.take 3 = h) then if lastC a then some (codeN a, n + a.length) else if gb a 3 = 45 then rpL h t (n + a.length) else none else none
def rp (b : List UInt8) : Option (Nat × Nat) := rpL (b.take 3) (lns b) 0
theorem code_range (a : List UInt8) (h : codeB a = true) : 200 ≤ codeN a ∧ codeN a ≤ 599 := by
  unfold codeB at h
  simp at h
  unfold codeN
  omega
theorem rpL_code (h : List UInt8) : ∀ (ls : List (List UInt8)) (n c m : Nat), rpL h ls n = some (c, m) → (200 ≤ c ∧ c ≤ 599) ∧ n + 5 ≤ m ∧ m ≤ n + ls.flatten.length
  | [], n, c, m, e => by simp [rpL] at e
  | a :: t, n, c, m, e => by
    unfold rpL at e
    split at e
    · rename_i hc
      simp only [Bool.and_eq_true] at hc
      have h5 : 5 ≤ a.length := by
        have := hc.1
        unfold codeB at this
        simp at this
        omega
      rw [List.flatten_cons, List.length_append]
      split at e
      · cases e
        exact ⟨code_range a hc.1, by omega, by omega⟩
      · split at e
        · have := rpL_code h t (n + a.length) c m e
          exact ⟨this.1, by omega, by omega⟩
        · cases e
    · cases e
theorem rp_code (b : List UInt8) (c m : Nat) (e : rp b = some (c, m)) : (200 ≤ c ∧ c ≤ 599) ∧ 5 ≤ m ∧ m ≤ b.length := by
  have h1 := rpL_code _ _ _ _ _ e
  have h2 := (lns_len b.length b (Nat.le_refl _)).2
  exact ⟨h1.1, by omega, by omega⟩
/-- a cut text has fewer lines -/
theorem lns_prefix : ∀ (n : Nat) (l : List UInt8), l.length ≤ n → ∀ c, ∃ k, lns (l.take c) = (lns l).take k := by
  intro n
  induction n with
  | zero =>
    intro l hl c
    obtain rfl : l = [] := List.length_eq_zero_iff.1 (by omega)
    exact ⟨0, by simp [lns_none [] rfl]⟩
  | succ n ih =>
    intro l hl c
    have hsplit : l = l.take c ++ l.drop c := (List.take_append_drop c l).symm
    cases hf : fl l with
    | none =>
      refine ⟨0, ?_⟩
      rw [List.take_zero]
      refine lns_none _ ?_
      cases h2 : fl (l.take c) with
      | none => rfl
      | some p =>
        obtain ⟨a, r⟩ := p
        obtain ⟨h3, -, -, h4⟩ := fl_app _ _ _ h2
        have : fl (l.take c ++ l.drop c) = some (a, r ++ l.drop c) := by rw [h3, List.append_assoc]; exact h4 _
        rw [List.take_append_drop] at this
        rw [hf] at this
        cases this
    | some p =>
      obtain ⟨a, b⟩ := p
      obtain ⟨h1, h2, -, h4⟩ := fl_app _ _ _ hf
      by_cases hc : c < a.length
      · refine ⟨0, ?_⟩
        rw [List.take_zero]
        refine lns_none _ ?_
        rw [h1, List.take_append_of_le_length (by omega)]
        exact oneLine.cut (oneLine_fl hf) c hc
      · have e : l.take c = a ++ b.take (c - a.length) := by rw [h1, List.take_append, List.take_of_length_le (by omega)]
        obtain ⟨k, hk⟩ := ih b (by rw [h1] at hl; simp at hl; omega) (c - a.length)
        refine ⟨k + 1, ?_⟩
        rw [lns_some l a b hf, e, lns_some _ a (b.take (c - a.length)) (h4 _), List.take_succ_cons, hk]
theorem rpL_take (h : List UInt8) : ∀ (ls : List (List UInt8)) (k n : Nat) (p : Nat × Nat), rpL h (ls.take k) n = some p → rpL h ls n = some p
  | [], k, n, p, e => by simpa using e
  | a :: t, 0, n, p, e => by simp [rpL] at e
  | a :: t, k + 1, n, p, e => by
    rw [List.take_succ_cons] at e
    unfold rpL at e ⊢
    split at e
    · rename_i hc
      rw [if_pos hc]
      split at e
      · rename_i hl; rw [if_pos hl]; exact e
      · rename_i hl
        rw [if_neg hl]
        split at e
        · rename_i h3; rw [if_pos h3]; exact rpL_take h t k _ p e
        · cases e
    · cases e
theorem rp_take (b : List UInt8) (c : Nat) (p : Nat × Nat) (e : rp (b.take c) = some p) : rp b = some p ∧ p.2 ≤ c := by
  obtain ⟨k, hk⟩ := lns_prefix b.length b (Nat.le_refl _) c
  have h2 := rp_code _ p.1 p.2 e
  rw [List.length_take] at h2
  unfold rp at e ⊢
  rw [hk] at e
  have e3 : (b.take c).take 3 = b.take 3 := by rw [List.take_take, Nat.min_eq_left (by omega)]
  rw [e3] at e
  exact ⟨rpL_take _ _ _ _ _ e, by omega⟩
/-- **the codes of replies** -/
def rpsF : Nat → List UInt8 → List Nat
  | 0, _ => []
  | f + 1, b => match rp b with
    | none => []
    | some (c, m) => c :: rpsF f (b.drop m)
theorem rpsF_same : ∀ (f g : Nat) (b : List UInt8), b.length ≤ f → b.length ≤ g → rpsF f b = rpsF g b
  | 0, 0, b, _, _ => rfl
  | 0, g + 1, b, h, _ => by
    obtain rfl : b = [] := List.length_eq_zero_iff.1 (by omega)
    unfold rpsF
    have : rp [] = none := by unfold rp; rw [lns_none [] rfl]; rfl
    rw [this]
  | f + 1, 0, b, _, h => by
    obtain rfl : b = [] := List.length_eq_zero_iff.1 (by omega)
    unfold rpsF
    have : rp [] = none := by unfold rp; rw [lns_none [] rfl]; rfl
    rw [this]
  | f + 1, g + 1, b, h1, h2 => by
    unfold rpsF
    cases e : rp b with
    | none => rfl
    | some p =>
      obtain ⟨c, m⟩ := p
      have := rp_code b c m e
      simp only
      rw [rpsF_same f g (b.drop m) (by simp; omega) (by simp; omega)]
def rps (b : List UInt8) : List Nat := rpsF b.length b
theorem rps_none (b : List UInt8) (h : rp b = none) : rps b = [] := by
  unfold rps
  cases hb : b.length with
  | zero => rfl
  | succ n => unfold rpsF; rw [h]
theorem rps_some (b : List UInt8) (c m : Nat) (h : rp b = some (c, m)) : rps b = c :: rps (b.drop m) := by
  have h2 := rp_code b c m h
  unfold rps
  cases hb : b.length with
  | zero => omega
  | succ n =>
    rw [rpsF, h]
    simp only
    rw [rpsF_same n (b.drop m).length (b.drop m) (by simp; omega) (Nat.le_refl _)]
theorem rps_range : ∀ (n : Nat) (b : List UInt8), b.length ≤ n → ∀ c ∈ rps b, 200 ≤ c ∧ c ≤ 599
  | 0, b, hl, c, hc => by
    obtain rfl : b = [] := List.length_eq_zero_iff.1 (by omega)
    simp [rps, rpsF] at hc
  | n + 1, b, hl, c, hc => by
    cases e : rp b with
    | none => rw [rps_none b e] at hc; simp at hc
    | some p =>
      obtain ⟨c', m⟩ := p
      have h2 := rp_code b c' m e
      rw [rps_some b c' m e] at hc
      rcases List.mem_cons.1 hc with rfl | hc
      · exact h2.1
      · exact rps_range n (b.drop m) (by simp; omega) c hc
theorem rps_take : ∀ (n : Nat) (b : List UInt8), b.length ≤ n → ∀ c, ∃ k, rps (b.take c) = (rps b).take k := by
  intro n
  induction n with
  | zero =>
    intro b hl c
    obtain rfl : b = [] := List.length_eq_zero_iff.1 (by omega)
    exact ⟨0, by simp [rps, rpsF]⟩
  | succ n ih =>
    intro b hl c
    cases e : rp (b.take c) with
    | none => exact ⟨0, by rw [rps_none _ e]; simp⟩
    | some p =>
      obtain ⟨d, m⟩ := p
      obtain ⟨e2, hm⟩ := rp_take b c _ e
      have h2 := rp_code b d m e2
      obtain ⟨k, hk⟩ := ih (b.drop m) (by simp; omega) (c - m)
      refine ⟨k + 1, ?_⟩
      rw [rps_some _ d m e, rps_some b d m e2, List.take_succ_cons, ← hk]
      congr 2
      rw [List.drop_take]

/-! ### what is sent -/
structure Step where
  send : List UInt8
  low : Nat
  high : Nat
def quitL : List UInt8 := [81, 85, 73, 84, 13, 10]
/-- **the exchange**: what is still to be sent, the codes that come, what was sent -/
def exc : List Step → List Nat → List UInt8 → List UInt8 × Nat
  | [], _, out => (out, 0)
  | _ :: _, [], out => (out, 0)
  | s :: st, c :: cs, out => if s.low ≤ c ∧ c ≤ s.high then (if st.isEmpty = true then (out ++ s.send, c) else exc st cs (out ++ s.send)) else (out ++ quitL, if c < 400 then 0 else c)
theorem exc_ok (s s2 : Step) (st : List Step) (c : Nat) (cs : List Nat) (out : List UInt8) (h : s.low ≤ c ∧ c ≤ s.high) : exc (s :: s2 :: st) (c :: cs) out = exc (s2 :: st) cs (out ++ s.send) := by rw [exc, if_pos h, if_neg (by simp)]
theorem exc_last (s : Step) (c : Nat) (cs : List Nat) (out : List UInt8) (h : s.low ≤ c ∧ c ≤ s.high) : exc [s] (c :: cs) out = (out ++ s.send, c) := by rw [exc, if_pos h]; rfl
theorem exc_bad (s : Step) (st : List Step) (c : Nat) (cs : List Nat) (out : List UInt8) (h : ¬ (s.low ≤ c ∧ c ≤ s.high)) : exc (s :: st) (c :: cs) out = (out ++ quitL, if c < 400 then 0 else c) := by rw [exc, if_neg h]
/-- what stands in the code is the beginning -/
theorem exc_pre : ∀ (st : List Step) (cs : List Nat) (out : List UInt8), ∃ z, (exc st cs out).1 = out ++ z
  | [], cs, out => ⟨[], by simp [exc]⟩
  | s :: st, [], out => ⟨[], by simp [exc]⟩
  | s :: st, c :: cs, out => by
    by_cases h : s.low ≤ c ∧ c ≤ s.high
    · cases st with
      | nil => rw [exc_last s c cs out h]; exact ⟨_, rfl⟩
      | cons s2 st =>
        rw [exc_ok s s2 st c cs out h]
        obtain ⟨z, hz⟩ := exc_pre (s2 :: st) cs (out ++ s.send)
        exact ⟨s.send ++ z, by rw [hz, List.append_assoc]⟩
    · rw [exc_bad s st c cs out h]; exact ⟨_, rfl⟩
/-- who hears less says the beginning -/
theorem exc_take : ∀ (st : List Step) (cs : List Nat) (k : Nat) (out : List UInt8), (∃ z, (exc st cs out).1 = (exc st (cs.take k) out).1 ++ z) ∧ ((exc st (cs.take k) out).2 = 0 ∨ (exc st (cs.take k) out).2 = (exc st cs out).2)
  | [], cs, k, out => ⟨⟨[], by simp [exc]⟩, .inl rfl⟩
  | s :: st, [], k, out => ⟨⟨[], by simp⟩, .inr (by simp)⟩
  | s :: st, c :: cs, 0, out => by
    obtain ⟨z, hz⟩ := exc_pre (s :: st) (c :: cs) out
    exact ⟨⟨z, by rw [hz]; rfl⟩, .inl rfl⟩
  | s :: st, c :: cs, k + 1, out => by
    rw [List.take_succ_cons]
    by_cases h : s.low ≤ c ∧ c ≤ s.high
    · cases st with
      | nil => rw [exc_last s c cs out h, exc_last s c _ out h]; exact ⟨⟨[], by simp⟩, .inr rfl⟩
      | cons s2 st =>
        rw [exc_ok s s2 st c cs out h, exc_ok s s2 st c _ out h]
        exact exc_take (s2 :: st) cs k _
    · rw [exc_bad s st c cs out h, exc_bad s st c _ out h]; exact ⟨⟨[], by simp⟩, .inr rfl⟩
def sends (st : List Step) : List UInt8 := (st.map (·.send)).flatten
/-- 250 only if all was sent -/
theorem exc_once : ∀ (st : List Step) (cs : List Nat) (out : List UInt8), st ≠ [] → (st.getLast?.map (·.send)) = some quitL → (exc st cs out).1.length ≤ (out ++ sends st).length ∧ ((exc st cs out).2 = 250 → (exc st cs out).1 = out ++ sends st)
  | [], cs, out, h, _ => absurd rfl h
  | s :: st, [], out, _, _ => ⟨by simp [exc], fun h => by simp [exc] at h⟩
  | s :: st, c :: cs, out, h, hq => by
    have hlq : quitL.length ≤ (sends (s :: st)).length := by
      have : ∀ (st : List Step), (st.getLast?.map (·.send)) = some quitL → quitL.length ≤ (sends st).length := by
        intro st
        induction st with
        | nil => simp
        | cons x t ih =>
          intro hx
          unfold sends
          rw [List.map_cons, List.flatten_cons, List.length_append]
          cases t with
          | nil => simp at hx; rw [hx]; simp
          | cons y t => rw [List.getLast?_cons_cons] at hx; have := ih hx; unfold sends at this; omega
      exact this _ hq
    by_cases hh : s.low ≤ c ∧ c ≤ s.high
    · cases st with
      | nil =>
        rw [exc_last s c cs out hh]
        exact ⟨by simp [sends], fun _ => by simp [sends]⟩
      | cons s2 st =>
        rw [exc_ok s s2 st c cs out hh]
        have hq2 : ((s2 :: st).getLast?.map (·.send)) = some quitL := by rw [List.getLast?_cons_cons] at hq; exact hq
        have := exc_once (s2 :: st) cs (out ++ s.send) (by simp) hq2
        have e : out ++ s.send ++ sends (s2 :: st) = out ++ sends (s :: s2 :: st) := by simp [sends]
        rw [e] at this
        exact this
    · rw [exc_bad s st c cs out hh]
      refine ⟨by simp; omega, fun h => ?_⟩
      simp only at h
      split at h <;> omega
end Go.Proofs.Ytlgodokgebjjaaa

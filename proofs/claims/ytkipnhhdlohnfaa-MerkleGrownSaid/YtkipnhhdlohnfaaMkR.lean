/- Plain laws: proofs that are made are taken. -/
import Derived.RangeFuncNested
import Derived.RangeFuncBound
import Derived.RangeFuncCalls
import Derived.RangeFuncLeaves
import Derived.Shelf.Abstract
import Derived.Shelf.RegionOpen
import Derived.WalkKit
import Derived.OwnWalkIn
import Derived.TacticsInMore
import Derived.LoopNIn
import Derived.LoopIn
import Derived.Outline
import Derived.Lib.Hide
import Derived.Lib.SliceRun
import Derived.IntWalk
import Derived.WalkLawsBesides
import Derived.WalkSpells
import Derived.Laws.BitsAllLaws
import Derived.Lib.ConvBytes
import Derived.Maps.AppendAt
import Derived.Lib.AppendStr
import Derived.Lib.SlBytesConst
import Derived.Laws.AppendOwnNone
import Derived.Laws.OwnMore
import Derived.Laws.BytesArg
import Derived.Deep.RegionHeld3
import Derived.BigQuiet
import Derived.Deep.RegionLaw
import Derived.Deep.QuietTactic
import Derived.Lib.OthersKept
import Derived.Test.YtkipnhhdlohnfaaProg
import Derived.Deep.DeepFit
import Derived.Test.YtkipnhhdlohnfaaMkM
import Derived.Test.YtkipnhhdlohnfaaMkP
set_option linter.unusedVariables false
set_option linter.unusedSimpArgs false
namespace Go.Proofs.Ytkipnhhdlohnfaa
open Go Go.RowKit Go.Shelf

/-- the greatest power of two below: of each number between it and twice it -/
theorem pow_between {a b n : Nat} (h1 : 2 ^ a < n) (h2 : n ≤ 2 * 2 ^ a) (h3 : 2 ^ b < n) (h4 : n ≤ 2 * 2 ^ b) : a = b := by
  rcases Nat.lt_trichotomy a b with h | h | h
  · have : 2 ^ (a + 1) ≤ 2 ^ b := Nat.pow_le_pow_right (by omega) (by omega)
    rw [Nat.pow_succ] at this; omega
  · exact h
  · have : 2 ^ (b + 1) ≤ 2 ^ a := Nat.pow_le_pow_right (by omega) (by omega)
    rw [Nat.pow_succ] at this; omega
theorem hlf_between {n m : Nat} (h : 2 ≤ n) (hm : n ≤ 18446744073709551616) (h1 : hlf n < m) (h2 : m ≤ n) : hlf m = hlf n := by
  have r1 := hlf_range n h
  have r2 := hlf_range m (by omega)
  obtain ⟨⟨a, ha⟩, ha2⟩ := hlf_pow n hm
  obtain ⟨⟨b, hb⟩, hb2⟩ := hlf_pow m (by omega)
  have : a = b := pow_between (n := m) (by omega) (by omega) (by omega) (by omega)
  rw [ha, hb, this]
/-- a proof that is made comes to the root -/
theorem way_right : ∀ (N : Nat) (ls : List (List UInt8)) (i : Nat) (x : List UInt8), ls.length ≤ N → ls[i]? = some x → (turnsL ls.length i).length = (wayL ls i).length ∧ clb (turnsL ls.length i).reverse (wayL ls i) x (wayL ls i).length = rootL ls
  | 0, ls, i, x, hN, hx => by
    have := (List.getElem?_eq_some_iff.1 hx).1; omega
  | N + 1, ls, i, x, hN, hx => by
    have hi : i < ls.length := (List.getElem?_eq_some_iff.1 hx).1
    by_cases h2 : 2 ≤ ls.length
    · have hk := hlf_range ls.length h2
      have lt : (ls.take (hlf ls.length)).length = hlf ls.length := by rw [List.length_take]; omega
      have ld : (ls.drop (hlf ls.length)).length = ls.length - hlf ls.length := List.length_drop
      by_cases hik : i < hlf ls.length
      · obtain ⟨e1, e2⟩ := way_right N (ls.take (hlf ls.length)) i x (by omega) (by rw [List.getElem?_take_of_lt hik]; exact hx)
        rw [lt] at e1 e2
        rw [turnsL_left _ _ h2 hik, wayL_left _ _ h2 hik]
        refine ⟨by rw [List.length_cons, e1, List.length_append]; rfl, ?_⟩
        rw [clb_top false (turnsL (hlf ls.length) i) _ x (wayL (ls.take (hlf ls.length)) i).length (rootL (ls.drop (hlf ls.length))) e1 (by simp) (by simp), if_neg (by decide), List.take_left, e2, rootL_two ls h2]
      · obtain ⟨e1, e2⟩ := way_right N (ls.drop (hlf ls.length)) (i - hlf ls.length) x (by omega) (by rw [List.getElem?_drop]; rw [← hx]; congr 1; omega)
        rw [ld] at e1 e2
        rw [turnsL_right _ _ h2 hik, wayL_right _ _ h2 hik]
        refine ⟨by rw [List.length_cons, e1, List.length_append]; rfl, ?_⟩
        rw [clb_top true (turnsL (ls.length - hlf ls.length) (i - hlf ls.length)) _ x (wayL (ls.drop (hlf ls.length)) (i - hlf ls.length)).length (rootL (ls.take (hlf ls.length))) e1 (by simp) (by simp), if_pos rfl, List.take_left, e2, rootL_two ls h2]
    · match ls, h2, hx, hi with
      | [y], _, hx, hi =>
        obtain rfl : i = 0 := by simpa using hi
        cases hx
        rw [turnsL_one _ _ (by simp), wayL_one _ _ (by simp), rootL_one]
        exact ⟨rfl, rfl⟩
      | [], _, _, hi => simp at hi
      | _ :: _ :: _, h, _, _ => simp at h
/-- from the top down: whether the first m end to the right of what is split off; whether they are whole -/
def gR (n m : Nat) (w : Bool) : List Bool × Bool :=
  if h : 1 ≤ m ∧ m < n then
    if m ≤ hlf n then (false :: (gR (hlf n) m w).1, (gR (hlf n) m w).2) else (true :: (gR (n - hlf n) (m - hlf n) false).1, (gR (n - hlf n) (m - hlf n) false).2)
  else ([], w)
termination_by n
decreasing_by
  all_goals first | exact (hlf_range n (by omega)).2 | (have := hlf_range n (by omega); omega)
theorem gR_end (n m : Nat) (w : Bool) (h : ¬ (1 ≤ m ∧ m < n)) : gR n m w = ([], w) := by rw [gR, dif_neg h]
theorem gR_left (n m : Nat) (w : Bool) (h : 1 ≤ m ∧ m < n) (hi : m ≤ hlf n) : gR n m w = (false :: (gR (hlf n) m w).1, (gR (hlf n) m w).2) := by rw [gR, dif_pos h, if_pos hi]
theorem gR_right (n m : Nat) (w : Bool) (h : 1 ≤ m ∧ m < n) (hi : ¬ m ≤ hlf n) : gR n m w = (true :: (gR (n - hlf n) (m - hlf n) false).1, (gR (n - hlf n) (m - hlf n) false).2) := by rw [gR, dif_pos h, if_neg hi]
/-- q steps up from a part, of both roots -/
def two (ts : List Bool) (ps : List (List UInt8)) (x : List UInt8) : Nat → List UInt8 × List UInt8
  | 0 => (x, x)
  | q + 1 => if (ts[q]?.getD false) = true then (nodeL (ps[q]?.getD []) (two ts ps x q).1, nodeL (ps[q]?.getD []) (two ts ps x q).2) else ((two ts ps x q).1, nodeL (two ts ps x q).2 (ps[q]?.getD []))
theorem two_same (ts ts' : List Bool) (ps ps' : List (List UInt8)) (x : List UInt8) : ∀ q, (∀ k, k < q → ts[k]? = ts'[k]? ∧ ps[k]? = ps'[k]?) → two ts ps x q = two ts' ps' x q
  | 0, _ => rfl
  | q + 1, h => by
    unfold two
    rw [two_same ts ts' ps ps' x q (fun k hk => h k (by omega)), (h q (by omega)).1, (h q (by omega)).2]
theorem two_top (t : Bool) (R : List Bool) (ps : List (List UInt8)) (x p : List UInt8) (hR : R.length = ps.length) :
    two (t :: R).reverse (ps ++ [p]) x (ps ++ [p]).length = if t = true then (nodeL p (two R.reverse ps x ps.length).1, nodeL p (two R.reverse ps x ps.length).2) else ((two R.reverse ps x ps.length).1, nodeL (two R.reverse ps x ps.length).2 p) := by
  have e : two (t :: R).reverse (ps ++ [p]) x ps.length = two R.reverse ps x ps.length := by
    refine two_same _ _ _ _ x _ fun k hk => ⟨?_, ?_⟩
    · rw [List.reverse_cons, List.getElem?_append_left (by rw [List.length_reverse]; omega)]
    · rw [List.getElem?_append_left hk]
  rw [List.length_append, List.length_singleton, two, e, List.reverse_cons, List.getElem?_append_right (by rw [List.length_reverse]; omega), List.length_reverse, hR]
  simp
/-- where the way up begins: the part, and what stands behind it -/
def part0 (wh : Bool) (old : List UInt8) (ps : List (List UInt8)) : List UInt8 := if wh = true then old else (ps[0]?.getD [])
def rest0 (wh : Bool) (ps : List (List UInt8)) : List (List UInt8) := if wh = true then ps else ps.drop 1
theorem part0_app (wh : Bool) (old p : List UInt8) (ps : List (List UInt8)) (h : wh = false → ps ≠ []) : part0 wh old (ps ++ [p]) = part0 wh old ps ∧ rest0 wh (ps ++ [p]) = rest0 wh ps ++ [p] := by
  cases wh with
  | true => exact ⟨rfl, rfl⟩
  | false =>
    match ps, h rfl with
    | y :: t, _ => exact ⟨rfl, rfl⟩
/-- a beginning that is shown is taken -/
theorem grow_right : ∀ (N : Nat) (ls : List (List UInt8)) (m : Nat) (w : Bool), ls.length ≤ N → ls.length ≤ 1000 → 1 ≤ m → m ≤ ls.length → ∀ (wh : Bool) (rt : List Bool), gR ls.length m w = (rt, wh) →
    (wh = false → growL ls m w ≠ []) ∧ (rest0 wh (growL ls m w)).length = rt.length ∧ (wh = true → w = true) ∧
    two rt.reverse (rest0 wh (growL ls m w)) (part0 wh (rootL (ls.take m)) (growL ls m w)) (rest0 wh (growL ls m w)).length = (rootL (ls.take m), rootL ls)
  | 0, ls, m, w, hN, _, h1, h2, _, _, _ => by omega
  | N + 1, ls, m, w, hN, hM, h1, h2, wh, rt, hg => by
    by_cases he : m = ls.length
    · subst he
      rw [gR_end _ _ _ (by omega)] at hg
      cases hg
      rw [growL_base, List.take_length]
      cases w with
      | true => exact ⟨fun h => (by cases h), rfl, fun _ => rfl, rfl⟩
      | false => exact ⟨fun _ => (by simp), rfl, fun h => (by cases h), rfl⟩
    · have hn2 : 2 ≤ ls.length := by omega
      have hk := hlf_range ls.length hn2
      have lt : (ls.take (hlf ls.length)).length = hlf ls.length := by rw [List.length_take]; omega
      have ld : (ls.drop (hlf ls.length)).length = ls.length - hlf ls.length := List.length_drop
      by_cases hi : m ≤ hlf ls.length
      · rw [gR_left _ _ _ ⟨h1, by omega⟩ hi] at hg
        obtain ⟨rt', hrt⟩ : ∃ r, (gR (hlf ls.length) m w).1 = r := ⟨_, rfl⟩
        obtain ⟨wh', hwh⟩ : ∃ r, (gR (hlf ls.length) m w).2 = r := ⟨_, rfl⟩
        rw [hrt, hwh] at hg
        cases hg
        obtain ⟨a1, a2, a3, a4⟩ := grow_right N (ls.take (hlf ls.length)) m w (by omega) (by omega) h1 (by omega) wh rt' (by rw [lt, ← hrt, ← hwh])
        rw [growL_left ls m w hn2 he hi]
        obtain ⟨b1, b2⟩ := part0_app wh (rootL (ls.take m)) (rootL (ls.drop (hlf ls.length))) (growL (ls.take (hlf ls.length)) m w) a1
        rw [List.take_take, Nat.min_eq_left hi] at a4
        refine ⟨fun _ => (by simp), (by rw [b2, List.length_append, a2]; rfl), a3, ?_⟩
        rw [b1, b2, two_top false rt' _ _ _ a2.symm, if_neg (by decide), a4, rootL_two ls hn2]
      · rw [gR_right _ _ _ ⟨h1, by omega⟩ hi] at hg
        obtain ⟨rt', hrt⟩ : ∃ r, (gR (ls.length - hlf ls.length) (m - hlf ls.length) false).1 = r := ⟨_, rfl⟩
        obtain ⟨wh', hwh⟩ : ∃ r, (gR (ls.length - hlf ls.length) (m - hlf ls.length) false).2 = r := ⟨_, rfl⟩
        rw [hrt, hwh] at hg
        cases hg
        obtain ⟨a1, a2, a3, a4⟩ := grow_right N (ls.drop (hlf ls.length)) (m - hlf ls.length) false (by omega) (by omega) (by omega) (by omega) wh rt' (by rw [ld, ← hrt, ← hwh])
        have hwf : wh = false := by
          cases wh with
          | true => exact absurd (a3 rfl) (by decide)
          | false => rfl
        subst hwf
        rw [growL_right ls m w hn2 he hi]
        obtain ⟨b1, b2⟩ := part0_app false (rootL (ls.take m)) (rootL (ls.take (hlf ls.length))) (growL (ls.drop (hlf ls.length)) (m - hlf ls.length) false) a1
        refine ⟨fun _ => (by simp), (by rw [b2, List.length_append, a2]; rfl), fun h => (by cases h), ?_⟩
        have hp : part0 false (rootL (ls.take m)) (growL (ls.drop (hlf ls.length)) (m - hlf ls.length) false) = part0 false (rootL ((ls.drop (hlf ls.length)).take (m - hlf ls.length))) (growL (ls.drop (hlf ls.length)) (m - hlf ls.length) false) := rfl
        have hhm : hlf m = hlf ls.length := hlf_between hn2 (by omega) (by omega) h2
        have hml : (ls.take m).length = m := by rw [List.length_take]; omega
        have hrm : rootL (ls.take m) = nodeL (rootL (ls.take (hlf ls.length))) (rootL ((ls.drop (hlf ls.length)).take (m - hlf ls.length))) := by
          rw [rootL_two (ls.take m) (by omega), hml, hhm, List.take_take, Nat.min_eq_left (by omega), List.drop_take]
        rw [b1, b2, two_top true rt' _ _ _ a2.symm, if_pos rfl, hp, a4, rootL_two ls hn2, hrm]
end Go.Proofs.Ytkipnhhdlohnfaa

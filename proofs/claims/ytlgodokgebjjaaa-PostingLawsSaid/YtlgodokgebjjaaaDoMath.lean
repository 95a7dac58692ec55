/- Lines that end with the bytes 13 and 10; what goes on the wire, what comes off it. Plain. -/
import Derived.RangeFuncNested
import Derived.RangeFuncBound
import Derived.RangeFuncCalls
import Derived.RangeFuncLeaves
import Derived.Shelf.Abstract
import Derived.Shelf.RegionOpen
import Derived.WalkKit
import Derived.OwnWalkIn
import Derived.TacticsInMore
import Derived.LoopNIn
import Derived.LoopIn
import Derived.Outline
import Derived.Lib.Hide
import Derived.Lib.SliceRun
import Derived.IntWalk
import Derived.WalkLawsBesides
import Derived.WalkSpells
import Derived.Laws.BitsAllLaws
import Derived.Lib.ConvBytes
import Derived.Maps.AppendAt
import Derived.Lib.AppendStr
import Derived.Lib.SlBytesConst
import Derived.Laws.AppendOwnNone
import Derived.Laws.OwnMore
import Derived.Laws.BytesArg
import Derived.Deep.RegionHeld3
import Derived.BigQuiet
import Derived.Deep.RegionLaw
import Derived.Deep.QuietTactic
import Derived.Lib.OthersKept
import Derived.Test.YtlgodokgebjjaaaProg
import Derived.Deep.DeepFit
import Derived.Lib.IndexMore
import Derived.Lib.IndexLaws
import Derived.Lib.Strings
import Derived.Test.YtlgodokgebjjaaaGen
set_option linter.unusedVariables false
set_option linter.unusedSimpArgs false
namespace Go.Proofs.Ytlgodokgebjjaaa
open Go Go.RowKit Go.Shelf

/-- the first line with its end, and what stands behind it -/
def fl : List UInt8 → Option (List UInt8 × List UInt8)
  | x :: y :: t => if x = 13 ∧ y = 10 then some ([13, 10], t) else (fl (y :: t)).map fun p => (x :: p.1, p.2)
  | _ => none
theorem fl_hit (t : List UInt8) : fl (13 :: 10 :: t) = some ([13, 10], t) := by rw [fl, if_pos ⟨rfl, rfl⟩]
theorem fl_miss (x y : UInt8) (t : List UInt8) (h : ¬ (x = 13 ∧ y = 10)) : fl (x :: y :: t) = (fl (y :: t)).map fun p => (x :: p.1, p.2) := by rw [fl, if_neg h]
theorem fl_app : ∀ (l a b : List UInt8), fl l = some (a, b) → l = a ++ b ∧ 2 ≤ a.length ∧ (∃ c, a = c ++ [13, 10]) ∧ ∀ r, fl (a ++ r) = some (a, r)
  | [], _, _, h => by simp [fl] at h
  | [_], _, _, h => by simp [fl] at h
  | x :: y :: t, a, b, h => by
    by_cases hc : x = 13 ∧ y = 10
    · obtain ⟨rfl, rfl⟩ := hc
      rw [fl_hit] at h
      cases h
      exact ⟨rfl, by simp, ⟨[], rfl⟩, fun r => fl_hit r⟩
    · rw [fl_miss _ _ _ hc] at h
      obtain ⟨⟨a', b'⟩, h1, h2⟩ := Option.map_eq_some_iff.1 h
      cases h2
      obtain ⟨e1, e2, ⟨c, e3⟩, e4⟩ := fl_app (y :: t) a' b' h1
      refine ⟨by rw [List.cons_append, ← e1], by simp; omega, ⟨x :: c, by rw [e3]; rfl⟩, fun r => ?_⟩
      match a', e2, e1, e4 with
      | z :: a'', _, e1, e4 =>
        obtain rfl : y = z := by have := congrArg (fun l => l[0]?) e1; simpa using this
        show fl (x :: y :: (a'' ++ r)) = _
        rw [fl_miss _ _ _ hc]
        have := e4 r
        rw [List.cons_append] at this
        rw [this]
        rfl
theorem index_fl : ∀ l : List UInt8, (fl l = none ∧ Lib.index l [13, 10] = -1) ∨ ∃ a b, fl l = some (a, b) ∧ Lib.index l [13, 10] = ((a.length - 2 : Nat) : Int)
  | [] => .inl ⟨rfl, rfl⟩
  | [x] => .inl ⟨rfl, by simp [Lib.index]⟩
  | x :: y :: t => by
    by_cases hc : x = 13 ∧ y = 10
    · obtain ⟨rfl, rfl⟩ := hc
      exact .inr ⟨_, _, fl_hit t, by simp [Lib.index]⟩
    · have hp : ([13, 10] : List UInt8).isPrefixOf (x :: y :: t) = false := by
        simp only [List.isPrefixOf, Bool.and_true, Bool.and_eq_false_iff, beq_eq_false_iff_ne]
        by_cases hx : x = 13
        · exact .inr (fun h => hc ⟨hx, h.symm⟩)
        · exact .inl (fun h => hx h.symm)
      have hi : Lib.index (x :: y :: t) [13, 10] = if Lib.index (y :: t) [13, 10] == -1 then -1 else Lib.index (y :: t) [13, 10] + 1 := by
        conv => lhs; unfold Lib.index
        rw [hp]
        rfl
      rw [fl_miss _ _ _ hc, hi]
      rcases index_fl (y :: t) with ⟨h1, h2⟩ | ⟨a, b, h1, h2⟩
      · exact .inl ⟨by rw [h1]; rfl, by rw [h2]; rfl⟩
      · have := (fl_app _ _ _ h1).2.1
        refine .inr ⟨x :: a, b, by rw [h1]; rfl, ?_⟩
        rw [h2, if_neg (by simp)]
        simp; omega
/-- all lines -/
def lnsF : Nat → List UInt8 → List (List UInt8)
  | 0, _ => []
  | f + 1, l => match fl l with
    | none => []
    | some (a, b) => a :: lnsF f b
theorem lnsF_same : ∀ (f g : Nat) (l : List UInt8), l.length ≤ f → l.length ≤ g → lnsF f l = lnsF g l
  | 0, 0, _, _, _ => rfl
  | 0, g + 1, l, h, _ => by
    obtain rfl : l = [] := List.length_eq_zero_iff.1 (by omega)
    rfl
  | f + 1, 0, l, _, h => by
    obtain rfl : l = [] := List.length_eq_zero_iff.1 (by omega)
    rfl
  | f + 1, g + 1, l, hf, hg => by
    unfold lnsF
    cases h : fl l with
    | none => rfl
    | some p =>
      obtain ⟨a, b⟩ := p
      obtain ⟨e1, e2, _⟩ := fl_app _ _ _ h
      have hl := congrArg List.length e1
      rw [List.length_append] at hl
      show a :: lnsF f b = a :: lnsF g b
      rw [lnsF_same f g b (by omega) (by omega)]
def lns (l : List UInt8) : List (List UInt8) := lnsF l.length l
theorem lns_none (l : List UInt8) (h : fl l = none) : lns l = [] := by
  unfold lns
  cases hl : l.length with
  | zero => rfl
  | succ n => rw [lnsF, h]
theorem lns_some (l a b : List UInt8) (h : fl l = some (a, b)) : lns l = a :: lns b := by
  obtain ⟨e1, e2, _⟩ := fl_app _ _ _ h
  have hl := congrArg List.length e1
  rw [List.length_append] at hl
  unfold lns
  obtain ⟨n, hn⟩ : ∃ n, l.length = n + 1 := ⟨l.length - 1, by omega⟩
  rw [hn, lnsF, h]
  show a :: lnsF n b = _
  rw [lnsF_same n b.length b (by omega) (Nat.le_refl _)]
theorem fl_len {l a b : List UInt8} (h : fl l = some (a, b)) : l.length = a.length + b.length ∧ 2 ≤ a.length := by
  obtain ⟨e1, e2, _⟩ := fl_app _ _ _ h
  have hl := congrArg List.length e1
  rw [List.length_append] at hl
  exact ⟨hl, e2⟩
theorem fl_take {l a b : List UInt8} (h : fl l = some (a, b)) : l.take a.length = a ∧ l.drop a.length = b := by
  obtain ⟨e1, _⟩ := fl_app _ _ _ h
  rw [e1]
  exact ⟨List.take_left, List.drop_left⟩
theorem lns_len : ∀ (n : Nat) (l : List UInt8), l.length ≤ n → (lns l).length ≤ l.length ∧ (lns l).flatten.length ≤ l.length
  | n, l, hn => by
    cases h : fl l with
    | none => rw [lns_none l h]; simp
    | some p =>
      obtain ⟨a, b⟩ := p
      have h2 := fl_len h
      rw [lns_some l a b h]
      cases n with
      | zero => omega
      | succ n =>
        have := lns_len n b (by omega)
        simp only [List.length_cons, List.flatten_cons, List.length_append]
        omega
/-- whole lines -/
def wholeB (l : List UInt8) : Bool := decide (l.length = 0) || Lib.hasSuffix l [13, 10]
def closeL (l : List UInt8) : List UInt8 := if wholeB l = true then l else l ++ [13, 10]
theorem wholeB_iff (l : List UInt8) : wholeB l = true ↔ l = [] ∨ ∃ c, l = c ++ [13, 10] := by
  unfold wholeB Lib.hasSuffix
  rw [Bool.or_eq_true, decide_eq_true_eq, List.length_eq_zero_iff, List.isSuffixOf_iff_suffix]
  exact or_congr Iff.rfl ⟨fun ⟨c, h⟩ => ⟨c, h.symm⟩, fun ⟨c, h⟩ => ⟨c, h.symm⟩⟩
theorem closeL_whole (l : List UInt8) : wholeB (closeL l) = true := by
  unfold closeL
  split
  · assumption
  · exact (wholeB_iff _).2 (.inr ⟨l, rfl⟩)
theorem wholeB_num (l : List UInt8) : wholeB l = (decide (l.length = 0) || (decide (2 ≤ l.length) && (decide (gb l (l.length - 2) = 13) && decide (gb l (l.length - 1) = 10)))) := by
  by_cases h0 : l.length = 0
  · simp [wholeB, h0]
  · rw [decide_eq_false h0, Bool.false_or]
    have e : wholeB l = true ↔ (decide (2 ≤ l.length) && (decide (gb l (l.length - 2) = 13) && decide (gb l (l.length - 1) = 10))) = true := by
      rw [wholeB_iff]
      simp only [Bool.and_eq_true, decide_eq_true_eq]
      constructor
      · rintro (rfl | ⟨c, rfl⟩)
        · simp at h0
        · simp [gb]
      · rintro ⟨h2, h3, h4⟩
        refine .inr ⟨l.take (l.length - 2), ?_⟩
        have hd : l.drop (l.length - 2) = [13, 10] := by
          rw [List.drop_eq_getElem_cons (by omega), List.drop_eq_getElem_cons (by omega), List.drop_eq_nil_of_le (by omega)]
          unfold gb at h3 h4
          rw [List.getElem?_eq_getElem (by omega)] at h3 h4
          have e3 : l[l.length - 2] = 13 := UInt8.toNat_inj.1 (by simpa using h3)
          have e4 : l[l.length - 2 + 1] = 10 := by
            have : l.length - 2 + 1 = l.length - 1 := by omega
            simp only [this]
            exact UInt8.toNat_inj.1 (by simpa using h4)
          rw [e3, e4]
        rw [← hd, List.take_append_drop]
    cases hw : wholeB l with
    | true => exact (e.1 hw).symm
    | false =>
      cases hb : (decide (2 ≤ l.length) && (decide (gb l (l.length - 2) = 13) && decide (gb l (l.length - 1) = 10))) with
      | false => rfl
      | true => rw [e.2 hb] at hw; cases hw
/-- one line, and nothing else -/
def oneLine (x : List UInt8) : Prop := fl x = some (x, [])
theorem oneLine_fl {l a b : List UInt8} (h : fl l = some (a, b)) : oneLine a := by
  have := (fl_app _ _ _ h).2.2.2 []
  rwa [List.append_nil] at this
theorem oneLine.front {x : List UInt8} (h : oneLine x) (r : List UInt8) : fl (x ++ r) = some (x, r) := (fl_app _ _ _ h).2.2.2 r
theorem oneLine.len {x : List UInt8} (h : oneLine x) : 2 ≤ x.length := (fl_len h).2
theorem oneLine.cut {x : List UInt8} (h : oneLine x) (c : Nat) (hc : c < x.length) : fl (x.take c) = none := by
  cases e : fl (x.take c) with
  | none => rfl
  | some p =>
    obtain ⟨a, b⟩ := p
    obtain ⟨e1, e2, _, e4⟩ := fl_app _ _ _ e
    have := e4 (b ++ x.drop c)
    rw [← List.append_assoc, ← e1, List.take_append_drop, show fl x = some (x, []) from h] at this
    have hx : x = a := congrArg Prod.fst (Option.some.inj this)
    have hl := congrArg List.length e1
    rw [List.length_append, List.length_take, ← hx] at hl
    omega
theorem lns_lines : ∀ (n : Nat) (l : List UInt8), l.length ≤ n → ∀ x ∈ lns l, oneLine x
  | n, l, hn, x, hx => by
    cases h : fl l with
    | none => rw [lns_none l h] at hx; simp at hx
    | some p =>
      obtain ⟨a, b⟩ := p
      have h2 := fl_len h
      rw [lns_some l a b h] at hx
      cases n with
      | zero => omega
      | succ n =>
        rcases List.mem_cons.1 hx with rfl | hx
        · exact oneLine_fl h
        · exact lns_lines n b (by omega) x hx
theorem lns_flat : ∀ (ls : List (List UInt8)) (r : List UInt8), (∀ x ∈ ls, oneLine x) → lns (ls.flatten ++ r) = ls ++ lns r
  | [], r, _ => rfl
  | x :: t, r, h => by
    rw [List.flatten_cons, List.append_assoc, lns_some _ _ _ ((h x (by simp)).front _), lns_flat t r (fun y hy => h y (by simp [hy]))]
    rfl
theorem whole_flat : ∀ (n : Nat) (l : List UInt8), l.length ≤ n → wholeB l = true → (lns l).flatten = l
  | n, l, hn, hw => by
    rcases (wholeB_iff l).1 hw with rfl | ⟨c, hc⟩
    · rfl
    · cases h : fl l with
      | none =>
        exfalso
        have : ∀ c : List UInt8, fl (c ++ [13, 10]) ≠ none := by
          intro c
          induction c with
          | nil => simp [fl]
          | cons x t ih =>
            match t, ih with
            | [], ih => by_cases hx : x = 13 ∧ (13 : UInt8) = 10 <;> simp [fl]
            | y :: t, ih =>
              show fl (x :: y :: (t ++ [13, 10])) ≠ none
              by_cases hx : x = 13 ∧ y = 10
              · rw [fl, if_pos hx]; simp
              · rw [fl_miss _ _ _ hx]
                intro hn
                exact ih (Option.map_eq_none_iff.1 hn)
        exact this c (by rw [← hc]; exact h)
      | some p =>
        obtain ⟨a, b⟩ := p
        have h2 := fl_len h
        obtain ⟨e1, _, ⟨d, e3⟩, _⟩ := fl_app _ _ _ h
        rw [lns_some l a b h]
        cases n with
        | zero => omega
        | succ n =>
          have hb : wholeB b = true := by
            rw [wholeB_num]
            by_cases h0 : b.length = 0
            · simp [h0]
            · rw [decide_eq_false h0, Bool.false_or]
              have hl : l.length = d.length + 2 + b.length := by rw [e1, e3]; simp; omega
              have g1 : gb l (l.length - 1) = 10 := by rw [hc]; simp [gb]
              have g2 : gb l (l.length - 2) = 13 := by rw [hc]; simp [gb]
              have gr : ∀ k, gb l (d.length + 2 + k) = gb b k := fun k => by
                unfold gb
                rw [e1, e3, List.getElem?_append_right (by simp)]
                congr 3
                simp
              have gl : gb l (d.length + 1) = 10 := by
                unfold gb
                rw [e1, e3, List.append_assoc, List.getElem?_append_right (by omega)]
                simp
              have h2b : 2 ≤ b.length := by
                apply Classical.byContradiction
                intro hlt
                rw [show l.length - 2 = d.length + 1 by omega, gl] at g2
                omega
              rw [show l.length - 1 = d.length + 2 + (b.length - 1) by omega, gr] at g1
              rw [show l.length - 2 = d.length + 2 + (b.length - 2) by omega, gr] at g2
              simp [h2b, g1, g2]
          rw [List.flatten_cons, whole_flat n b (by omega) hb, ← e1]
/-- on the wire -/
def stuff1 (x : List UInt8) : List UInt8 := if gb x 0 = 46 then 46 :: x else x
def stuffL (l : List UInt8) : List UInt8 := ((lns (closeL l)).map stuff1).flatten ++ [46, 13, 10]
/-- off the wire -/
def unst (x : List UInt8) : List UInt8 := if gb x 0 = 46 then x.drop 1 else x
def scanL : List (List UInt8) → Option (List UInt8 × Nat)
  | [] => none
  | x :: t => if x = [46, 13, 10] then some ([], 3) else (scanL t).map fun p => (unst x ++ p.1, x.length + p.2)
def scanX (l : List UInt8) : List UInt8 := match scanL (lns l) with
  | none => []
  | some p => p.1
def scanR (l : List UInt8) : List UInt8 := match scanL (lns l) with
  | none => l
  | some p => l.drop p.2
def scanB (l : List UInt8) : Bool := (scanL (lns l)).isSome
theorem stuff1_line {x : List UInt8} (h : oneLine x) : oneLine (stuff1 x) ∧ stuff1 x ≠ [46, 13, 10] ∧ unst (stuff1 x) = x := by
  unfold stuff1
  have hl := h.len
  by_cases hd : gb x 0 = 46
  · rw [if_pos hd]
    refine ⟨?_, ?_, ?_⟩
    · match x, h, hl with
      | y :: t, h, _ =>
        unfold oneLine
        rw [fl_miss _ _ _ (fun hh => absurd hh.1 (by decide)), show fl (y :: t) = some (y :: t, []) from h]
        rfl
    · intro e
      cases e
      simp [gb] at hd
    · simp [unst, gb]
  · rw [if_neg hd]
    refine ⟨h, fun e => ?_, by unfold unst; rw [if_neg hd]⟩
    rw [e] at hd
    simp [gb] at hd
theorem dotLine : oneLine [46, 13, 10] := by unfold oneLine; rw [fl_miss _ _ _ (by decide), fl_hit]; rfl
theorem scanL_app : ∀ (ls ms : List (List UInt8)), (∀ x ∈ ls, oneLine x) → scanL (ls.map stuff1 ++ [46, 13, 10] :: ms) = some (ls.flatten, (ls.map stuff1).flatten.length + 3)
  | [], ms, _ => by simp [scanL]
  | x :: t, ms, h => by
    obtain ⟨_, h2, h3⟩ := stuff1_line (h x (by simp))
    rw [List.map_cons, List.cons_append, scanL, if_neg h2, scanL_app t ms (fun y hy => h y (by simp [hy]))]
    simp [h3, Nat.add_assoc]
/-- what goes on the wire comes off it -/
theorem scan_back (b more : List UInt8) : scanL (lns (stuffL b ++ more)) = some (closeL b, (stuffL b).length) := by
  have hls := lns_lines (closeL b).length (closeL b) (Nat.le_refl _)
  have e : lns (stuffL b ++ more) = (lns (closeL b)).map stuff1 ++ [46, 13, 10] :: lns more := by
    unfold stuffL
    rw [List.append_assoc, lns_flat _ _ (by
      intro x hx
      obtain ⟨y, hy, rfl⟩ := List.mem_map.1 hx
      exact (stuff1_line (hls y hy)).1), lns_some _ _ _ (dotLine.front more)]
  rw [e, scanL_app _ _ hls, whole_flat (closeL b).length (closeL b) (Nat.le_refl _) (closeL_whole b)]
  unfold stuffL
  simp
theorem back_all (b more : List UInt8) : scanX (stuffL b ++ more) = closeL b ∧ scanR (stuffL b ++ more) = more ∧ scanB (stuffL b ++ more) = true := by
  unfold scanX scanR scanB
  rw [scan_back]
  exact ⟨rfl, List.drop_left, rfl⟩
theorem lns_cut : ∀ (ls : List (List UInt8)) (c : Nat), (∀ x ∈ ls, oneLine x) → c < (ls.flatten ++ [46, 13, 10]).length → ∃ k, lns ((ls.flatten ++ [46, 13, 10]).take c) = ls.take k
  | [], c, _, hc => by
    refine ⟨0, ?_⟩
    rw [List.flatten_nil, List.nil_append] at hc ⊢
    rw [lns_none _ (dotLine.cut c hc)]
    rfl
  | x :: t, c, h, hc => by
    have hx := h x (by simp)
    by_cases hlt : c < x.length
    · refine ⟨0, ?_⟩
      rw [List.flatten_cons, List.append_assoc, List.take_append_of_le_length (by omega), lns_none _ (hx.cut c hlt)]
      rfl
    · obtain ⟨k, hk⟩ := lns_cut t (c - x.length) (fun y hy => h y (by simp [hy])) (by simp at hc ⊢; omega)
      refine ⟨k + 1, ?_⟩
      rw [List.flatten_cons, List.append_assoc, List.take_append, List.take_of_length_le (by omega), lns_some _ _ _ (hx.front _), hk]
      rfl
theorem scanL_none : ∀ (ls : List (List UInt8)), (∀ x ∈ ls, x ≠ [46, 13, 10]) → scanL ls = none
  | [], _ => rfl
  | x :: t, h => by
    rw [scanL, if_neg (h x (by simp)), scanL_none t (fun y hy => h y (by simp [hy]))]
    rfl
/-- what is cut off has no end -/
theorem cut_all (b : List UInt8) (c : Nat) (hc : c < (stuffL b).length) : scanB ((stuffL b).take c) = false ∧ scanR ((stuffL b).take c) = (stuffL b).take c := by
  have hls := lns_lines (closeL b).length (closeL b) (Nat.le_refl _)
  have hm : ∀ x ∈ (lns (closeL b)).map stuff1, oneLine x ∧ x ≠ [46, 13, 10] := by
    intro x hx
    obtain ⟨y, hy, rfl⟩ := List.mem_map.1 hx
    have := stuff1_line (hls y hy)
    exact ⟨this.1, this.2.1⟩
  obtain ⟨k, hk⟩ := lns_cut _ c (fun x hx => (hm x hx).1) hc
  have hn : scanL (lns ((stuffL b).take c)) = none := by
    unfold stuffL
    rw [hk]
    exact scanL_none _ (fun x hx => (hm x (List.mem_of_mem_take hx)).2)
  unfold scanB scanR
  rw [hn]
  exact ⟨rfl, rfl⟩
end Go.Proofs.Ytlgodokgebjjaaa

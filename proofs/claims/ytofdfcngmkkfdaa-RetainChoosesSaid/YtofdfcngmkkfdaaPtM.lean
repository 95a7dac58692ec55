/- Plain: folding keeps mailboxes; no mailbox holds '>'. -/
import Derived.RangeFuncNested
import Derived.RangeFuncBound
import Derived.RangeFuncCalls
import Derived.RangeFuncLeaves
import Derived.Shelf.Abstract
import Derived.Shelf.RegionOpen
import Derived.WalkKit
import Derived.OwnWalkIn
import Derived.TacticsInMore
import Derived.LoopNIn
import Derived.LoopIn
import Derived.Outline
import Derived.Lib.Hide
import Derived.Lib.SliceRun
import Derived.IntWalk
import Derived.WalkLawsBesides
import Derived.WalkSpells
import Derived.Laws.BitsAllLaws
import Derived.Lib.ConvBytes
import Derived.Maps.AppendAt
import Derived.Lib.AppendStr
import Derived.Lib.SlBytesConst
import Derived.Laws.AppendOwnNone
import Derived.Laws.OwnMore
import Derived.Laws.BytesArg
import Derived.Deep.RegionHeld3
import Derived.BigQuiet
import Derived.Deep.RegionLaw
import Derived.Deep.QuietTactic
import Derived.Lib.OthersKept
import Derived.Test.YtofdfcngmkkfdaaProg
import Derived.Deep.DeepFit
import Derived.Test.YtofdfcngmkkfdaaPtL
set_option linter.unusedVariables false
set_option linter.unusedSimpArgs false
namespace Go.Proofs.Ytofdfcngmkkfdaa
open Go Go.RowKit Go.Shelf

theorem smallN_cases (c : Nat) : (65 ≤ c ∧ c ≤ 90 ∧ smallN c = c + 32) ∨ (¬ (65 ≤ c ∧ c ≤ 90) ∧ smallN c = c) := by
  unfold smallN; by_cases h : 65 ≤ c ∧ c ≤ 90
  · rw [if_pos h]; exact .inl ⟨h.1, h.2, rfl⟩
  · rw [if_neg h]; exact .inr ⟨h, rfl⟩
theorem smallN_eq (c k : Nat) (hk : k < 65) : smallN c = k ↔ c = k := by
  have := smallN_cases c; omega
theorem smallN_twice (c : Nat) : smallN (smallN c) = smallN c := by
  rcases smallN_cases c with ⟨h1, h2, h3⟩ | ⟨h1, h2⟩
  · rw [h3]; rcases smallN_cases (c + 32) with ⟨h4, h5, _⟩ | ⟨_, h6⟩
    · omega
    · exact h6
  · rw [h2]; exact h2
theorem wordN_small (c : Nat) : wordN (smallN c) = wordN c := by
  rcases smallN_cases c with ⟨h1, h2, h3⟩ | ⟨h1, h2⟩
  · rw [h3, wordN_yes (by omega), wordN_yes (by omega)]
  · rw [h2]
theorem lowC_46 (c : UInt8) : lowC c = 46 ↔ c = 46 := by
  rw [← UInt8.toNat_inj, ← UInt8.toNat_inj (a := c), lowC_nat]
  exact smallN_eq _ _ (by decide)
theorem lowC_twice (c : UInt8) : lowC (lowC c) = lowC c := by
  rw [← UInt8.toNat_inj, lowC_nat, lowC_nat, smallN_twice]
theorem lowL_twice (l : List UInt8) : lowL (lowL l) = lowL l := by
  unfold lowL; rw [List.map_map]; exact List.map_congr_left fun c _ => lowC_twice c
theorem sp_lowL : ∀ l : List UInt8, sp (lowL l) = (sp l).map lowL
  | [] => rfl
  | c :: r => by
    have ih := sp_lowL r
    show sp (lowC c :: lowL r) = _
    by_cases h : c = 46
    · have h2 : lowC c = 46 := (lowC_46 c).2 h
      rw [sp, sp, if_pos h2, if_pos h, ih]; rfl
    · have h2 : ¬ lowC c = 46 := fun e => h ((lowC_46 c).1 e)
      rw [sp, sp, if_neg h2, if_neg h, ih]
      cases e : sp r with
      | nil => rfl
      | cons x t => rfl
theorem ofN_lowL (p : Nat → Bool) (hp : ∀ c, p (smallN c) = p c) (l : List UInt8) : ofN p (lowL l) = ofN p l := by
  unfold ofN lowL
  rw [List.all_map]
  congr 1
  funext b
  simp only [Function.comp, lowC_nat, hp]
theorem gb_out (l : List UInt8) (j : Nat) (h : l.length ≤ j) : gb l j = 0 := by unfold gb; rw [List.getElem?_eq_none h]; rfl
theorem gb_lowL_eq (l : List UInt8) (j k : Nat) (hk : k < 65) : (gb (lowL l) j == k) = (gb l j == k) := by
  by_cases h : j < l.length
  · rw [gb_lowL l j h, Bool.eq_iff_iff, beq_iff_eq, beq_iff_eq]; exact smallN_eq _ _ hk
  · rw [gb_out _ _ (by rw [lowL_len]; omega), gb_out _ _ (by omega)]
theorem labelB_lowL (l : List UInt8) : labelB (lowL l) = labelB l := by
  unfold labelB
  rw [lowL_len, gb_lowL_eq _ _ _ (by decide), gb_lowL_eq _ _ _ (by decide), ofN_lowL _ (fun c => by
    rw [wordN_small]
    congr 1
    rw [Bool.eq_iff_iff, beq_iff_eq, beq_iff_eq]; exact smallN_eq _ _ (by decide))]
theorem domB_lowL (l : List UInt8) : domB (lowL l) = domB l := by
  unfold domB
  rw [sp_lowL, List.all_map, lowL_len]
  congr 2
  funext x
  exact labelB_lowL x
theorem lastN_congr (a b : List UInt8) (c : Nat) (h : ∀ j, (gb a j = c) = (gb b j = c)) : ∀ k, lastN a c k = lastN b c k
  | 0 => rfl
  | k + 1 => by simp only [lastN, h k, lastN_congr a b c h k]
theorem lastB_foldL (l : List UInt8) : lastB (foldL l) 64 = lastB l 64 := by
  by_cases h : lastB l 64 < 0
  · unfold foldL; rw [if_pos h]
  · obtain ⟨n, hn⟩ : ∃ n : Nat, lastB l 64 = n := ⟨(lastB l 64).toNat, by omega⟩
    have hb := lastB_bound l 64
    obtain ⟨-, hl, hg⟩ := gb_foldL l n hn (by omega)
    unfold lastB
    rw [hl]
    apply lastN_congr
    intro j
    by_cases hj : j < l.length
    · rw [hg j hj]
      by_cases e : n ≤ j
      · rw [if_pos e]; exact propext (smallN_eq _ _ (by decide))
      · rw [if_neg e]
    · rw [gb_out _ _ (by rw [hl]; omega), gb_out _ _ (by omega)]
theorem foldL_take (l : List UInt8) (n : Nat) (hn : lastB l 64 = n) : (foldL l).take n = l.take n ∧ (foldL l).drop (n + 1) = lowL (l.drop (n + 1)) := by
  have hb := lastB_bound l 64
  obtain ⟨he, -, -⟩ := gb_foldL l n hn (by omega)
  have hl : (l.take (n + 1)).length = n + 1 := by simp; omega
  rw [he]
  refine ⟨?_, by rw [List.drop_left' hl]⟩
  rw [List.take_append_of_le_length (by omega), List.take_take, Nat.min_eq_left (by omega)]
theorem mailB_foldL (l : List UInt8) : mailB (foldL l) = mailB l := by
  by_cases h : lastB l 64 < 0
  · unfold foldL; rw [if_pos h]
  · obtain ⟨n, hn⟩ : ∃ n : Nat, lastB l 64 = n := ⟨(lastB l 64).toNat, by omega⟩
    obtain ⟨h1, h2⟩ := foldL_take l n hn
    unfold mailB
    rw [lastB_foldL, hn, Int.toNat_natCast, h1, h2, domB_lowL]
theorem foldL_twice (l : List UInt8) : foldL (foldL l) = foldL l := by
  by_cases h : lastB l 64 < 0
  · have e : foldL l = l := by unfold foldL; rw [if_pos h]
    rw [e, e]
  · obtain ⟨n, hn⟩ : ∃ n : Nat, lastB l 64 = n := ⟨(lastB l 64).toNat, by omega⟩
    have hb := lastB_bound l 64
    have hn2 : lastB (foldL l) 64 = n := by rw [lastB_foldL]; exact hn
    obtain ⟨h1, h2⟩ := foldL_take l n hn
    obtain ⟨he, hl, hg⟩ := gb_foldL l n hn (by omega)
    obtain ⟨he2, -, -⟩ := gb_foldL (foldL l) n hn2 (by omega)
    rw [he2, h2, lowL_twice]
    conv => rhs; rw [← List.take_append_drop (n + 1) (foldL l), h2]

/-! no mailbox holds '>' -/
theorem mem_sp : ∀ (l : List UInt8) (c : UInt8), c ∈ l → c = 46 ∨ ∃ x ∈ sp l, c ∈ x
  | [], c, h => by simp at h
  | b :: r, c, h => by
    by_cases hb : b = 46
    · rcases List.mem_cons.1 h with rfl | h
      · exact .inl hb
      · rcases mem_sp r c h with h | ⟨x, hx, hc⟩
        · exact .inl h
        · exact .inr ⟨x, by rw [sp, if_pos hb]; exact List.mem_cons_of_mem _ hx, hc⟩
    · rw [sp, if_neg hb]
      cases e : sp r with
      | nil => exact absurd e (sp_ne r)
      | cons y t =>
        rcases List.mem_cons.1 h with rfl | h
        · exact .inr ⟨_, List.mem_cons_self, by simp⟩
        · rcases mem_sp r c h with h | ⟨x, hx, hc⟩
          · exact .inl h
          · rw [e] at hx
            rcases List.mem_cons.1 hx with rfl | hx
            · exact .inr ⟨_, List.mem_cons_self, List.mem_cons_of_mem _ hc⟩
            · exact .inr ⟨x, List.mem_cons_of_mem _ hx, hc⟩
theorem ofN_mem {p : Nat → Bool} {l : List UInt8} (h : ofN p l = true) {c : UInt8} (hc : c ∈ l) : p c.toNat = true := by
  unfold ofN at h; exact List.all_eq_true.1 h c hc
theorem no_gt {l : List UInt8} (h : mailB l = true) : (62 : UInt8) ∉ l := by
  intro hm
  unfold mailB at h
  simp only [Bool.and_eq_true, decide_eq_true_eq] at h
  obtain ⟨⟨⟨h1, h2⟩, h3⟩, h4⟩ := h
  obtain ⟨n, hn⟩ : ∃ n : Nat, lastB l 64 = n := ⟨(lastB l 64).toNat, by omega⟩
  rw [hn, Int.toNat_natCast] at h3 h4
  have hb := lastB_bound l 64
  have hlt : n < l.length := by omega
  have e64 := lastN_at l 64 _ n hn
  rw [← List.take_append_drop n l, List.drop_eq_getElem_cons hlt] at hm
  rcases List.mem_append.1 hm with hm | hm
  · rcases mem_sp _ _ hm with e | ⟨x, hx, hc⟩
    · exact absurd e (by decide)
    · have := List.all_eq_true.1 h4 x hx
      unfold nameB at this
      simp only [Bool.and_eq_true] at this
      exact absurd (ofN_mem this.2 hc) (by decide)
  · rcases List.mem_cons.1 hm with e | hm
    · have : gb l n = 62 := by unfold gb; rw [List.getElem?_eq_getElem hlt, ← e]; rfl
      omega
    · unfold domB at h3
      simp only [Bool.and_eq_true] at h3
      rcases mem_sp _ _ hm with e | ⟨x, hx, hc⟩
      · exact absurd e (by decide)
      · have := List.all_eq_true.1 h3.1 x hx
        unfold labelB at this
        simp only [Bool.and_eq_true] at this
        exact absurd (ofN_mem this.2 hc) (by decide)
theorem parse_back (s more : List UInt8) (h : s = [] ∨ mailB s = true) : parB (60 :: (s ++ 62 :: more)) = true ∧ parA (60 :: (s ++ 62 :: more)) = s ∧ parR (60 :: (s ++ 62 :: more)) = more := by
  have hn : (62 : UInt8) ∉ s := by
    rcases h with rfl | h
    · simp
    · exact no_gt h
  have hix : Lib.indexByte (s ++ 62 :: more) 62 = (s.length : Nat) := by
    refine indexByte_first _ _ _ ?_ ?_
    · rw [List.getElem?_append_right (Nat.le_refl _), Nat.sub_self]; rfl
    · intro j hj e
      rw [List.getElem?_append_left hj] at e
      exact hn (List.mem_of_getElem? e)
  have hB : parB (60 :: (s ++ 62 :: more)) = true := by
    unfold parB parG
    rw [List.drop_succ_cons, List.drop_zero, hix, Int.toNat_natCast, List.take_left]
    have e1 : decide (1 ≤ (60 :: (s ++ 62 :: more)).length) = true := decide_eq_true (by simp)
    have e2 : (gb (60 :: (s ++ 62 :: more)) 0 == 60) = true := rfl
    have e3 : decide ((0 : Int) ≤ ((s.length : Nat) : Int)) = true := decide_eq_true (by omega)
    rw [e1, e2, e3, Bool.true_and, Bool.true_and, Bool.true_and, Bool.or_eq_true]
    rcases h with rfl | h
    · exact .inl rfl
    · exact .inr h
  refine ⟨hB, ?_, ?_⟩
  · unfold parA; rw [hB, if_pos rfl, List.drop_succ_cons, List.drop_zero, hix, Int.toNat_natCast, List.take_left]
  · unfold parR; rw [hB, if_pos rfl, List.drop_succ_cons, List.drop_zero, hix, Int.toNat_natCast]
    rw [show s.length + 1 = (s ++ [62]).length by simp, show s ++ 62 :: more = (s ++ [62]) ++ more by simp, List.drop_left]
end Go.Proofs.Ytofdfcngmkkfdaa

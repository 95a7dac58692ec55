/- Plain facts on records written and found again. No program in sight. -/
import Derived.Test.YtlgmocmekmppeaaFrM
set_option linter.unusedVariables false
set_option linter.unusedSimpArgs false
namespace Go.Proofs.Ytlgmocmekmppeaa
open Go Go.RowKit

theorem gb_append_left (a b : List UInt8) (i : Nat) (h : i < a.length) : gb (a ++ b) i = gb a i := by
  unfold gb; rw [List.getElem?_append_left h]
theorem wordL_append (a b : List UInt8) (h : 4 ≤ a.length) : wordL (a ++ b) = wordL a := by
  unfold wordL
  rw [gb_append_left _ _ _ (by omega), gb_append_left _ _ _ (by omega), gb_append_left _ _ _ (by omega), gb_append_left _ _ _ (by omega)]
theorem wordL_le4 (n : Nat) (h : n < 4294967296) : wordL (le4 n) = n := by
  unfold wordL le4 gb
  simp
  omega
theorem le4_len (n : Nat) : (le4 n).length = 4 := rfl

/-- the first eight bytes tell the rest -/
theorem recB_word (x : List UInt8) (hx : x.length ≤ 1000000) (r : List UInt8) : wordL (recB x ++ r) = x.length := by
  unfold recB
  rw [List.append_assoc, List.append_assoc, wordL_append _ _ (by simp [le4_len]), wordL_le4 _ (by omega)]
theorem recB_crc (x r : List UInt8) : wordL ((recB x ++ r).drop 4) = crcN x := by
  unfold recB
  rw [List.append_assoc, List.append_assoc, List.drop_append, le4_len]
  simp only [Nat.sub_self, List.drop_zero]
  rw [List.drop_of_length_le (by simp [le4_len]), List.nil_append, wordL_append _ _ (by simp [le4_len]), wordL_le4 _ (crcN_lt x)]
theorem recB_drop (x r : List UInt8) : (recB x ++ r).drop 8 = x ++ r := by
  unfold recB
  rw [List.append_assoc, List.drop_append, List.drop_of_length_le (by simp [le4_len])]
  simp [le4_len]
theorem nextB_rec (x : List UInt8) (hx : x.length ≤ 1000000) (r : List UInt8) : nextB (recB x ++ r) = true ∧ nextX (recB x ++ r) = x ∧ nextR (recB x ++ r) = r := by
  have h1 := recB_word x hx r
  have h2 := recB_crc x r
  have h3 := recB_drop x r
  have h4 := recB_len x
  refine ⟨?_, ?_, ?_⟩
  · simp only [nextB, Bool.and_eq_true, decide_eq_true_eq]
    rw [h1, h2, h3, List.length_append, h4]
    refine ⟨by omega, hx, by omega, ?_⟩
    rw [List.take_left]
  · unfold nextX
    rw [h1, h3, List.take_left]
  · unfold nextR
    rw [h1, ← List.drop_drop, h3, List.drop_left]

/-- where each record ends -/
def posL : Nat → List (List UInt8) → List (Nat × List UInt8)
  | _, [] => []
  | pos, x :: ls => (pos + 8 + x.length, x) :: posL (pos + 8 + x.length) ls
theorem recsB_cons (x : List UInt8) (ls : List (List UInt8)) : recsB (x :: ls) = recB x ++ recsB ls := by simp [recsB]
theorem recsAt_write (more : List UInt8) (hm : nextB more = false) : ∀ (ls : List (List UInt8)) (pos f : Nat), (∀ l ∈ ls, l.length ≤ 1000000) → (recsB ls ++ more).length ≤ f → recsAt f pos (recsB ls ++ more) = posL pos ls
  | [], pos, f, _, _ => by
    simp only [recsB, List.map_nil, List.flatten_nil, List.nil_append, posL]
    exact recsAt_none hm f pos
  | x :: ls, pos, f, hl, hf => by
    have hx := hl x (by simp)
    rw [recsB_cons, List.append_assoc] at hf ⊢
    obtain ⟨h1, h2, h3⟩ := nextB_rec x hx (recsB ls ++ more)
    have hlen := recB_len x
    cases f with
    | zero => rw [List.length_append, hlen] at hf; omega
    | succ f =>
      rw [recsAt, if_pos h1, recB_word x hx, h2, h3, recsAt_write more hm ls _ f (fun l h => hl l (by simp [h])) (by rw [List.length_append, hlen] at hf; omega), posL]
theorem posL_snd : ∀ (pos : Nat) (ls : List (List UInt8)), (posL pos ls).map (·.2) = ls
  | _, [] => rfl
  | pos, x :: ls => by simp [posL, posL_snd]
theorem posL_len (pos : Nat) (ls : List (List UInt8)) : (posL pos ls).length = ls.length := by
  rw [← List.length_map (f := (·.2)), posL_snd]
theorem posL_last : ∀ (pos : Nat) (ls : List (List UInt8)), ls ≠ [] → ((posL pos ls)[ls.length - 1]?.getD (0, [])).1 = pos + (recsB ls).length
  | _, [], h => absurd rfl h
  | pos, [x], _ => by simp [posL, recsB, recB_len]; omega
  | pos, x :: y :: ls, _ => by
    have ih := posL_last (pos + 8 + x.length) (y :: ls) (by simp)
    rw [posL, recsB_cons, List.length_append, recB_len]
    simp only [List.length_cons, Nat.add_sub_cancel] at ih ⊢
    rw [List.getElem?_cons_succ, ih]
    omega

/-- **what is written is found again** -/
theorem all_write (ls : List (List UInt8)) (more : List UInt8) (hl : ∀ l ∈ ls, l.length ≤ 1000000) (hm : nextB more = false) : allR (recsB ls ++ more) = ls ∧ allN (recsB ls ++ more) = (recsB ls).length := by
  have h := recsAt_write more hm ls 0 _ hl (Nat.le_refl _)
  refine ⟨by unfold allR; rw [h, posL_snd], ?_⟩
  unfold allN usedAt
  rw [h, posL_len]
  cases ls with
  | nil => simp [recsB]
  | cons x ls =>
    rw [if_neg (by simp), posL_last 0 (x :: ls) (by simp)]
    omega
theorem nextB_nil : nextB [] = false := by simp [nextB]
theorem recsB_append (a b : List (List UInt8)) : recsB (a ++ b) = recsB a ++ recsB b := by simp [recsB]

/-- a record that is cut is none -/
theorem nextB_torn (x : List UInt8) (hx : x.length ≤ 1000000) (n : Nat) (h : n < (recB x).length) : nextB ((recB x).take n) = false := by
  have hlen := recB_len x
  by_cases h8 : 8 ≤ n
  · have hw : wordL ((recB x).take n) = x.length := by
      have h1 := recB_word x hx []
      rw [List.append_nil] at h1
      have h2 := wordL_append ((recB x).take n) ((recB x).drop n) (by simp; omega)
      rw [List.take_append_drop] at h2
      omega
    refine nextB_long (fun h' => ?_)
    rw [hw] at h'
    simp at h'
    omega
  · have : ¬ 8 ≤ ((recB x).take n).length := by simp; omega
    simp only [nextB, Bool.and_eq_false_iff, decide_eq_false_iff_not]
    exact .inl this

/-- where record k begins -/
def offL (ls : List (List UInt8)) (k : Nat) : Nat := (recsB (ls.take k)).length
theorem offL_zero (ls : List (List UInt8)) : offL ls 0 = 0 := by simp [offL, recsB]
theorem offL_succ (ls : List (List UInt8)) (k : Nat) (h : k < ls.length) : offL ls (k + 1) = offL ls k + (8 + (ls[k]?.getD []).length) := by
  unfold offL; rw [recsB_take ls k h, List.length_append, recB_len]
theorem offL_all (ls : List (List UInt8)) : offL ls ls.length = (recsB ls).length := by unfold offL; rw [List.take_length]

/-- **of what is cut the whole ones are found** -/
theorem all_torn (ls : List (List UInt8)) (hl : ∀ l ∈ ls, l.length ≤ 1000000) (cut k : Nat) (hk : k < ls.length) (h1 : offL ls k ≤ cut) (h2 : cut < offL ls (k + 1)) : allR ((recsB ls).take cut) = ls.take k ∧ allN ((recsB ls).take cut) = offL ls k := by
  have e : recsB ls = recsB (ls.take k) ++ (recB (ls[k]?.getD []) ++ recsB (ls.drop (k + 1))) := by
    rw [← List.append_assoc, ← recsB_take ls k hk, ← recsB_append, List.take_append_drop]
  have hx : (ls[k]?.getD []).length ≤ 1000000 := by rw [List.getElem?_eq_getElem hk]; exact hl _ (List.getElem_mem hk)
  have hcut : (recsB ls).take cut = recsB (ls.take k) ++ (recB (ls[k]?.getD [])).take (cut - offL ls k) := by
    rw [e, List.take_append, List.take_of_length_le (show (recsB (ls.take k)).length ≤ cut from h1), List.take_append_of_le_length]
    · rfl
    · rw [recB_len]; have := offL_succ ls k hk; unfold offL at *; omega
  have ht := nextB_torn _ hx (cut - offL ls k) (by rw [recB_len]; have := offL_succ ls k hk; omega)
  rw [hcut]
  exact all_write (ls.take k) _ (fun l h => hl l (List.mem_of_mem_take h)) ht
theorem offL_mono (ls : List (List UInt8)) (k : Nat) (h : k < ls.length) : offL ls k ≤ offL ls (k + 1) := by rw [offL_succ ls k h]; omega
end Go.Proofs.Ytlgmocmekmppeaa

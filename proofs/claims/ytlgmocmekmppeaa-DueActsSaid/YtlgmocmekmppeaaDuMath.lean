/- The heap keeps its order, and its items. -/
import Derived.Test.YtlgmocmekmppeaaDuC
set_option linter.unusedVariables false
set_option linter.unusedSimpArgs false
namespace Go.Proofs.Ytlgmocmekmppeaa
open Go Go.RowKit Go.Shelf

def leP (x y : Item) : Prop := x.1 < y.1 ∨ (x.1 = y.1 ∧ x.2 ≤ y.2)
theorem ltI_false {x y : Item} : ltI y x = false ↔ leP x y := by
  unfold ltI leP; split <;> simp <;> omega
theorem ltI_true {x y : Item} : ltI x y = true ↔ (x.1 < y.1 ∨ (x.1 = y.1 ∧ x.2 < y.2)) := by
  unfold ltI; split <;> simp <;> omega
theorem ltI_le {x y : Item} (h : ltI x y = true) : leP x y := by
  have := ltI_true.1 h; unfold leP; omega
theorem leP.trans {x y z : Item} (h : leP x y) (k : leP y z) : leP x z := by unfold leP at *; omega
theorem leP.refl (x : Item) : leP x x := by unfold leP; omega
theorem leP.anti {x y : Item} (h : leP x y) (k : leP y x) : x = y := by
  obtain ⟨a, b⟩ := x; obtain ⟨c, d⟩ := y
  simp only [leP] at *
  have h1 : a = c := by omega
  have h2 : b = d := by omega
  rw [h1, h2]
theorem it_lt {xs : List Item} {i : Nat} (h : i < xs.length) : it xs i = xs[i] := by simp [it, h]
theorem it_mem {xs : List Item} {i : Nat} (h : i < xs.length) : it xs i ∈ xs := by rw [it_lt h]; exact List.getElem_mem _
theorem swapL_perm {xs : List Item} {i j : Nat} (hi : i < xs.length) (hj : j < xs.length) : (swapL xs i j).Perm xs := by
  unfold swapL; rw [it_lt hi, it_lt hj]; exact List.set_set_perm hi hj
theorem it_swap {xs : List Item} {i j : Nat} (hi : i < xs.length) (hj : j < xs.length) (k : Nat) : it (swapL xs i j) k = if k = j then it xs i else if k = i then it xs j else it xs k := by
  by_cases h1 : k = j
  · subst h1; simp [it, swapL, hj]
  · by_cases h2 : k = i
    · subst h2
      rw [if_neg h1, if_pos rfl]
      have : j ≠ k := fun e => h1 e.symm
      simp [it, swapL, List.getElem?_set, this, hi]
    · rw [if_neg h1, if_neg h2]
      have a1 : j ≠ k := fun e => h1 e.symm
      have a2 : i ≠ k := fun e => h2 e.symm
      simp [it, swapL, List.getElem?_set, a1, a2]
def Heap (n : Nat) (xs : List Item) : Prop := ∀ i, 0 < i → i < n → leP (it xs ((i - 1) / 2)) (it xs i)
theorem Heap.least {n : Nat} {xs : List Item} (h : Heap n xs) : ∀ i, i < n → leP (it xs 0) (it xs i) := by
  intro i
  induction i using Nat.strongRecOn with
  | _ i ih =>
    intro hi
    cases i with
    | zero => exact leP.refl _
    | succ i => exact (ih (i / 2) (by omega) (by omega)).trans (by have := h (i + 1) (by omega) hi; simpa using this)

theorem upL_ok : ∀ (f j : Nat) (xs : List Item), j ≤ f → j < xs.length → (∀ i, 0 < i → i < xs.length → i ≠ j → leP (it xs ((i - 1) / 2)) (it xs i)) →
    (∀ i, 0 < j → 0 < i → i < xs.length → (i - 1) / 2 = j → leP (it xs ((j - 1) / 2)) (it xs i)) → Heap xs.length (upL f xs j) ∧ (upL f xs j).Perm xs
  | 0, j, xs, hf, hj, h1, h2 => ⟨fun i h0 hi => h1 i h0 hi (by omega), List.Perm.refl _⟩
  | f + 1, j, xs, hf, hj, h1, h2 => by
    unfold upL
    by_cases hc : (j - 1) / 2 = j ∨ ltI (it xs j) (it xs ((j - 1) / 2)) = false
    · rw [if_pos hc]
      refine ⟨fun i h0 hi => ?_, List.Perm.refl _⟩
      by_cases hij : i = j
      · subst hij
        rcases hc with hc | hc
        · omega
        · exact ltI_false.1 hc
      · exact h1 i h0 hi hij
    · rw [if_neg hc]
      have hj0 : 0 < j := by omega
      have hlt : ltI (it xs j) (it xs ((j - 1) / 2)) = true := by
        cases h : ltI (it xs j) (it xs ((j - 1) / 2)) with
        | true => rfl
        | false => exact absurd (.inr h) hc
      obtain ⟨p, hp⟩ : ∃ p, p = (j - 1) / 2 := ⟨_, rfl⟩
      rw [← hp] at hlt ⊢
      have hpj : p < j := by omega
      have hle := ltI_le hlt
      have hs := it_swap (xs := xs) (i := p) (j := j) (by omega) hj
      obtain ⟨r1, r2⟩ := upL_ok f p (swapL xs p j) (by omega) (by rw [swapL_len]; omega) (by
        intro i h0 hi hip
        rw [swapL_len] at hi
        rw [hs, hs]
        by_cases e1 : i = j
        · subst e1
          rw [← hp, if_neg (by omega), if_pos rfl, if_pos rfl]
          exact hle
        · rw [if_neg e1, if_neg hip]
          by_cases e2 : (i - 1) / 2 = j
          · rw [if_pos e2]
            have := h2 i hj0 h0 hi e2
            rw [← hp] at this
            exact this
          · rw [if_neg e2]
            by_cases e3 : (i - 1) / 2 = p
            · rw [if_pos e3]
              have := h1 i h0 hi e1
              rw [e3] at this
              exact hle.trans this
            · rw [if_neg e3]
              exact h1 i h0 hi e1) (by
        intro i hp0 h0 hi hip
        rw [swapL_len] at hi
        rw [hs, hs, if_neg (by omega), if_neg (by omega)]
        have hpp := h1 p hp0 (by omega) (by omega)
        by_cases e1 : i = j
        · rw [if_pos e1]; exact hpp
        · rw [if_neg e1, if_neg (by omega)]
          have := h1 i h0 hi e1
          rw [hip] at this
          exact hpp.trans this)
      rw [swapL_len] at r1
      exact ⟨r1, r2.trans (swapL_perm (by omega) hj)⟩

theorem kidL_least {xs : List Item} {k n i : Nat} (h : 0 < i) (hi : i < n) (hk : (i - 1) / 2 = k) : leP (it xs (kidL xs k n)) (it xs i) := by
  have hcase : i = 2 * k + 1 ∨ i = 2 * k + 2 := by omega
  unfold kidL
  by_cases hc : 2 * k + 2 < n ∧ ltI (it xs (2 * k + 2)) (it xs (2 * k + 1)) = true
  · rw [if_pos hc]
    rcases hcase with rfl | rfl
    · exact ltI_le hc.2
    · exact leP.refl _
  · rw [if_neg hc]
    rcases hcase with rfl | rfl
    · exact leP.refl _
    · refine ltI_false.1 ?_
      cases h : ltI (it xs (2 * k + 2)) (it xs (2 * k + 1)) with
      | false => rfl
      | true => exact absurd ⟨hi, h⟩ hc
theorem kidL_up (xs : List Item) (k n : Nat) : (kidL xs k n - 1) / 2 = k := by
  unfold kidL; split <;> omega

theorem downL_ok (n : Nat) : ∀ (f k : Nat) (xs : List Item), n ≤ f + k → n ≤ xs.length → (∀ i, 0 < i → i < n → (i - 1) / 2 ≠ k → leP (it xs ((i - 1) / 2)) (it xs i)) →
    (∀ i, 0 < k → 0 < i → i < n → (i - 1) / 2 = k → leP (it xs ((k - 1) / 2)) (it xs i)) → Heap n (downL f xs k n) ∧ (downL f xs k n).Perm xs ∧ ∀ i, n ≤ i → it (downL f xs k n) i = it xs i
  | 0, k, xs, hf, hl, h1, h2 => ⟨fun i h0 hi => h1 i h0 hi (by omega), List.Perm.refl _, fun _ _ => rfl⟩
  | f + 1, k, xs, hf, hl, h1, h2 => by
    unfold downL
    by_cases hc : n ≤ 2 * k + 1 ∨ ltI (it xs (kidL xs k n)) (it xs k) = false
    · rw [if_pos hc]
      refine ⟨fun i h0 hi => ?_, List.Perm.refl _, fun _ _ => rfl⟩
      by_cases hik : (i - 1) / 2 = k
      · rw [hik]
        rcases hc with hc | hc
        · omega
        · exact (ltI_false.1 hc).trans (kidL_least h0 hi hik)
      · exact h1 i h0 hi hik
    · rw [if_neg hc]
      have hn : ¬ n ≤ 2 * k + 1 := fun h => hc (.inl h)
      obtain ⟨hcn, hkc⟩ := kidL_lt (xs := xs) hn
      have hup := kidL_up xs k n
      have hlt : ltI (it xs (kidL xs k n)) (it xs k) = true := by
        cases h : ltI (it xs (kidL xs k n)) (it xs k) with
        | true => rfl
        | false => exact absurd (.inr h) hc
      have hleast := fun i (h0 : 0 < i) (hi : i < n) (hk : (i - 1) / 2 = k) => kidL_least (xs := xs) h0 hi hk
      obtain ⟨c, hcc⟩ : ∃ c, kidL xs k n = c := ⟨_, rfl⟩
      rw [hcc] at hcn hkc hup hlt hleast ⊢
      have hle := ltI_le hlt
      have hs := it_swap (xs := xs) (i := k) (j := c) (by omega) (by omega)
      obtain ⟨r1, r2, r3⟩ := downL_ok n f c (swapL xs k c) (by omega) (by rw [swapL_len]; exact hl) (by
        intro i h0 hi hic
        rw [hs, hs, if_neg hic]
        by_cases e1 : i = c
        · subst e1
          rw [hup, if_pos rfl, if_pos rfl]
          exact hle
        · rw [if_neg e1]
          by_cases e2 : i = k
          · subst e2
            rw [if_pos rfl, if_neg (by omega)]
            exact h2 c h0 (by omega) hcn hup
          · rw [if_neg e2]
            by_cases e3 : (i - 1) / 2 = k
            · rw [if_pos e3]
              exact hleast i h0 hi e3
            · rw [if_neg e3]
              exact h1 i h0 hi e3) (by
        intro i hc0 h0 hi hic
        rw [hup, hs, hs, if_neg (by omega), if_pos rfl, if_neg (by omega), if_neg (by omega)]
        have := h1 i h0 hi (by omega)
        rw [hic] at this
        exact this)
      refine ⟨r1, r2.trans (swapL_perm (by omega) (by omega)), fun i hi => ?_⟩
      rw [r3 i hi, hs, if_neg (by omega), if_neg (by omega)]

theorem push_ok {xs : List Item} (x : Item) (h : Heap xs.length xs) : Heap (upL xs.length (xs ++ [x]) xs.length).length (upL xs.length (xs ++ [x]) xs.length) ∧ (upL xs.length (xs ++ [x]) xs.length).Perm (xs ++ [x]) := by
  have hl : (xs ++ [x]).length = xs.length + 1 := by simp
  have hg : ∀ i, i < xs.length → it (xs ++ [x]) i = it xs i := fun i hi => by simp [it, List.getElem?_append_left hi]
  obtain ⟨r1, r2⟩ := upL_ok xs.length xs.length (xs ++ [x]) (Nat.le_refl _) (by omega) (by
    intro i h0 hi hn
    rw [hl] at hi
    rw [hg _ (by omega), hg _ (by omega)]
    exact h i h0 (by omega)) (by
    intro i _ h0 hi hp
    omega)
  exact ⟨by rw [r2.length_eq]; exact r1, r2⟩

theorem pop_ok {xs : List Item} (h0 : 0 < xs.length) (h : Heap xs.length xs) :
    ∃ ys, popL xs = ys ++ [it xs 0] ∧ Heap ys.length ys ∧ (ys ++ [it xs 0]).Perm xs ∧ ∀ y ∈ xs, leP (it xs 0) y := by
  obtain ⟨n, hn⟩ : ∃ n, xs.length = n + 1 := ⟨xs.length - 1, by omega⟩
  have hs := it_swap (xs := xs) (i := 0) (j := n) (by omega) (by omega)
  obtain ⟨r1, r2, r3⟩ := downL_ok n n 0 (swapL xs 0 n) (by omega) (by rw [swapL_len]; omega) (by
    intro i i0 hi hk
    rw [hs, hs, if_neg (by omega), if_neg hk, if_neg (by omega), if_neg (by omega)]
    exact h i i0 (by omega)) (by intro i hk; omega)
  have hpop : popL xs = downL n (swapL xs 0 n) 0 n := by unfold popL; rw [hn]; rfl
  obtain ⟨zs, hz⟩ : ∃ zs, downL n (swapL xs 0 n) 0 n = zs := ⟨_, rfl⟩
  rw [hz] at r1 r2 r3 hpop
  have hzl : zs.length = n + 1 := by rw [r2.length_eq, swapL_len, hn]
  have hlast := r3 n (Nat.le_refl _)
  rw [hs, if_pos rfl] at hlast
  have hsplit : zs = zs.take n ++ [it xs 0] := by
    rw [← hlast, it_lt (by omega)]
    have := List.take_append_drop n zs
    rw [List.drop_eq_getElem_cons (by omega), List.drop_of_length_le (by omega)] at this
    exact this.symm
  refine ⟨zs.take n, by rw [hpop]; exact hsplit, ?_, ?_, ?_⟩
  · intro i i0 hi
    have hi' : i < n := by simp at hi; omega
    have e : ∀ k, k < n → it (zs.take n) k = it zs k := fun k hk => by simp [it, List.getElem?_take, hk]
    rw [e _ (by omega), e _ hi']
    exact r1 i i0 hi'
  · rw [← hsplit]; exact r2.trans (swapL_perm (by omega) (by omega))
  · intro y hy
    obtain ⟨i, hi, rfl⟩ := List.getElem_of_mem hy
    rw [← it_lt hi]
    exact h.least i hi
end Go.Proofs.Ytlgmocmekmppeaa

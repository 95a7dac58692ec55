/- a heap of rising lists, and what it hands out, plain -/
import Derived.Test.YtlgodokgebjjaaaPoMath
set_option linter.unusedVariables false
set_option linter.unusedSimpArgs false
namespace Go.Proofs.Ytlgodokgebjjaaa

abbrev LL := List (List Int)
def hdI (l : List Int) : Int := l.headD 0
def itF (xs : LL) (i : Nat) : List Int := xs[i]?.getD []
def ltF (x y : List Int) : Bool := decide (hdI x < hdI y)
def leF (x y : List Int) : Prop := hdI x ≤ hdI y
theorem ltF_false {x y : List Int} : ltF y x = false ↔ leF x y := by simp [ltF, leF]
theorem ltF_le {x y : List Int} (h : ltF x y = true) : leF x y := by simp [ltF] at h; unfold leF; omega
theorem leF.trans {x y z : List Int} (h : leF x y) (k : leF y z) : leF x z := by unfold leF at *; omega
theorem leF.refl (x : List Int) : leF x x := by unfold leF; omega
theorem itF_lt {xs : LL} {i : Nat} (h : i < xs.length) : itF xs i = xs[i] := by simp [itF, h]
theorem itF_mem {xs : LL} {i : Nat} (h : i < xs.length) : itF xs i ∈ xs := by rw [itF_lt h]; exact List.getElem_mem _
def swapF (xs : LL) (i j : Nat) : LL := (xs.set i (itF xs j)).set j (itF xs i)
theorem swapF_len (xs : LL) (i j : Nat) : (swapF xs i j).length = xs.length := by simp [swapF]
theorem swapF_perm {xs : LL} {i j : Nat} (hi : i < xs.length) (hj : j < xs.length) : (swapF xs i j).Perm xs := by
  unfold swapF; rw [itF_lt hi, itF_lt hj]; exact List.set_set_perm hi hj
theorem itF_swap {xs : LL} {i j : Nat} (hi : i < xs.length) (hj : j < xs.length) (k : Nat) : itF (swapF xs i j) k = if k = j then itF xs i else if k = i then itF xs j else itF xs k := by
  by_cases h1 : k = j
  · subst h1; simp [itF, swapF, hj]
  · by_cases h2 : k = i
    · subst h2
      rw [if_neg h1, if_pos rfl]
      have : j ≠ k := fun e => h1 e.symm
      simp [itF, swapF, List.getElem?_set, this, hi]
    · rw [if_neg h1, if_neg h2]
      have a1 : j ≠ k := fun e => h1 e.symm
      have a2 : i ≠ k := fun e => h2 e.symm
      simp [itF, swapF, List.getElem?_set, a1, a2]
def HeapF (s n : Nat) (xs : LL) : Prop := ∀ i, 0 < i → i < n → s ≤ (i - 1) / 2 → leF (itF xs ((i - 1) / 2)) (itF xs i)
theorem HeapF.least {n : Nat} {xs : LL} (h : HeapF 0 n xs) : ∀ i, i < n → leF (itF xs 0) (itF xs i) := by
  intro i
  induction i using Nat.strongRecOn with
  | _ i ih =>
    intro hi
    cases i with
    | zero => exact leF.refl _
    | succ i => exact (ih (i / 2) (by omega) (by omega)).trans (by have := h (i + 1) (by omega) hi (Nat.zero_le _); simpa using this)
def kidF (xs : LL) (i n : Nat) : Nat := if 2 * i + 2 < n ∧ ltF (itF xs (2 * i + 2)) (itF xs (2 * i + 1)) = true then 2 * i + 2 else 2 * i + 1
def downF : Nat → LL → Nat → Nat → LL
  | 0, xs, _, _ => xs
  | f + 1, xs, i, n => if n ≤ 2 * i + 1 ∨ ltF (itF xs (kidF xs i n)) (itF xs i) = false then xs else downF f (swapF xs i (kidF xs i n)) (kidF xs i n) n
theorem downF_stop {f i n : Nat} {xs : LL} (h : n ≤ 2 * i + 1 ∨ ltF (itF xs (kidF xs i n)) (itF xs i) = false) : downF f xs i n = xs := by
  cases f with
  | zero => rfl
  | succ f => rw [downF, if_pos h]
theorem downF_go {f i n : Nat} {xs : LL} (h1 : ¬ n ≤ 2 * i + 1) (h2 : ltF (itF xs (kidF xs i n)) (itF xs i) = true) : downF (f + 1) xs i n = downF f (swapF xs i (kidF xs i n)) (kidF xs i n) n := by
  rw [downF, if_neg]
  rintro (h | h)
  · exact h1 h
  · rw [h] at h2; cases h2
theorem kidF_lt {xs : LL} {i n : Nat} (h : ¬ n ≤ 2 * i + 1) : kidF xs i n < n ∧ i < kidF xs i n := by
  unfold kidF; split <;> omega
theorem downF_len : ∀ (f : Nat) (xs : LL) (i n : Nat), (downF f xs i n).length = xs.length
  | 0, _, _, _ => rfl
  | f + 1, xs, i, n => by
    unfold downF
    split
    · rfl
    · rw [downF_len f, swapF_len]
theorem kidF_least {xs : LL} {k n i : Nat} (h : 0 < i) (hi : i < n) (hk : (i - 1) / 2 = k) : leF (itF xs (kidF xs k n)) (itF xs i) := by
  have hcase : i = 2 * k + 1 ∨ i = 2 * k + 2 := by omega
  unfold kidF
  by_cases hc : 2 * k + 2 < n ∧ ltF (itF xs (2 * k + 2)) (itF xs (2 * k + 1)) = true
  · rw [if_pos hc]
    rcases hcase with rfl | rfl
    · exact ltF_le hc.2
    · exact leF.refl _
  · rw [if_neg hc]
    rcases hcase with rfl | rfl
    · exact leF.refl _
    · refine ltF_false.1 ?_
      cases h : ltF (itF xs (2 * k + 2)) (itF xs (2 * k + 1)) with
      | false => rfl
      | true => exact absurd ⟨hi, h⟩ hc
theorem kidF_up (xs : LL) (k n : Nat) : (kidF xs k n - 1) / 2 = k := by
  unfold kidF; split <;> omega
theorem downF_ok (s n : Nat) : ∀ (f k : Nat) (xs : LL), s ≤ k → n ≤ f + k → n ≤ xs.length → (∀ i, 0 < i → i < n → s ≤ (i - 1) / 2 → (i - 1) / 2 ≠ k → leF (itF xs ((i - 1) / 2)) (itF xs i)) →
    (∀ i, 0 < k → s ≤ (k - 1) / 2 → 0 < i → i < n → (i - 1) / 2 = k → leF (itF xs ((k - 1) / 2)) (itF xs i)) → HeapF s n (downF f xs k n) ∧ (downF f xs k n).Perm xs ∧ ∀ i, n ≤ i → itF (downF f xs k n) i = itF xs i
  | 0, k, xs, hsk, hf, hl, h1, h2 => ⟨fun i h0 hi hs => h1 i h0 hi hs (by omega), List.Perm.refl _, fun _ _ => rfl⟩
  | f + 1, k, xs, hsk, hf, hl, h1, h2 => by
    unfold downF
    by_cases hc : n ≤ 2 * k + 1 ∨ ltF (itF xs (kidF xs k n)) (itF xs k) = false
    · rw [if_pos hc]
      refine ⟨fun i h0 hi hs => ?_, List.Perm.refl _, fun _ _ => rfl⟩
      by_cases hik : (i - 1) / 2 = k
      · rw [hik]
        rcases hc with hc | hc
        · omega
        · exact (ltF_false.1 hc).trans (kidF_least h0 hi hik)
      · exact h1 i h0 hi hs hik
    · rw [if_neg hc]
      have hn : ¬ n ≤ 2 * k + 1 := fun h => hc (.inl h)
      obtain ⟨hcn, hkc⟩ := kidF_lt (xs := xs) hn
      have hup := kidF_up xs k n
      have hlt : ltF (itF xs (kidF xs k n)) (itF xs k) = true := by
        cases h : ltF (itF xs (kidF xs k n)) (itF xs k) with
        | true => rfl
        | false => exact absurd (.inr h) hc
      have hleast := fun i (h0 : 0 < i) (hi : i < n) (hk : (i - 1) / 2 = k) => kidF_least (xs := xs) h0 hi hk
      obtain ⟨c, hcc⟩ : ∃ c, kidF xs k n = c := ⟨_, rfl⟩
      rw [hcc] at hcn hkc hup hlt hleast ⊢
      have hle := ltF_le hlt
      have hs := itF_swap (xs := xs) (i := k) (j := c) (by omega) (by omega)
      obtain ⟨r1, r2, r3⟩ := downF_ok s n f c (swapF xs k c) (by omega) (by omega) (by rw [swapF_len]; exact hl) (by
        intro i h0 hi hsi hic
        rw [hs, hs, if_neg hic]
        by_cases e1 : i = c
        · subst e1
          rw [hup, if_pos rfl, if_pos rfl]
          exact hle
        · rw [if_neg e1]
          by_cases e2 : i = k
          · subst e2
            rw [if_pos rfl, if_neg (by omega)]
            exact h2 c h0 hsi (by omega) hcn hup
          · rw [if_neg e2]
            by_cases e3 : (i - 1) / 2 = k
            · rw [if_pos e3]
              exact hleast i h0 hi e3
            · rw [if_neg e3]
              exact h1 i h0 hi hsi e3) (by
        intro i hc0 hsc h0 hi hic
        rw [hup, hs, hs, if_neg (by omega), if_pos rfl, if_neg (by omega), if_neg (by omega)]
        have := h1 i h0 hi (by omega) (by omega)
        rw [hic] at this
        exact this)
      refine ⟨r1, r2.trans (swapF_perm (by omega) (by omega)), fun i hi => ?_⟩
      rw [r3 i hi, hs, if_neg (by omega), if_neg (by omega)]
theorem downF_memH (n : Nat) : ∀ (f k : Nat) (xs : LL), True → n ≤ xs.length → ∀ l, l ∈ downF f xs k n ↔ l ∈ xs
  | 0, _, _, _, _, _ => Iff.rfl
  | f + 1, k, xs, _, hl, l => by
    unfold downF
    split
    · exact Iff.rfl
    · rename_i hc
      have hn : ¬ n ≤ 2 * k + 1 := fun h => hc (.inl h)
      obtain ⟨h1, h2⟩ := kidF_lt (xs := xs) hn
      rw [downF_memH n f _ _ trivial (by rw [swapF_len]; exact hl)]
      exact (swapF_perm (by omega) (by omega)).mem_iff
/-- heap.Init -/
def initF : Nat → LL → LL
  | 0, xs => xs
  | k + 1, xs => initF k (downF xs.length xs k xs.length)
theorem initF_ok : ∀ (k : Nat) (xs : LL), HeapF k xs.length xs → HeapF 0 xs.length (initF k xs) ∧ (initF k xs).Perm xs
  | 0, xs, h => ⟨h, List.Perm.refl _⟩
  | k + 1, xs, h => by
    obtain ⟨r1, r2, -⟩ := downF_ok k xs.length xs.length k xs (Nat.le_refl _) (by omega) (Nat.le_refl _) (fun i h0 hi hs hk => h i h0 hi (by omega)) (fun i h0 hs => by omega)
    have hl := r2.length_eq
    obtain ⟨r3, r4⟩ := initF_ok k (downF xs.length xs k xs.length) (by rw [hl]; exact r1)
    rw [hl] at r3
    exact ⟨r3, r4.trans r2⟩
theorem initF_all (xs : LL) : HeapF 0 xs.length (initF (xs.length / 2) xs) ∧ (initF (xs.length / 2) xs).Perm xs := initF_ok _ _ fun i h0 hi hs => by omega
/-- heap.Pop -/
def popF (xs : LL) : LL := downF (xs.length - 1) (swapF xs 0 (xs.length - 1)) 0 (xs.length - 1)
theorem popF_len (xs : LL) : (popF xs).length = xs.length := by unfold popF; rw [downF_len, swapF_len]
/-- the first one given up -/
theorem popF_ok (x : List Int) (xs : LL) (h : HeapF 0 (xs.length + 1) (x :: xs)) (y : List Int) :
    ∃ ys, popF (y :: xs) = ys ++ [y] ∧ HeapF 0 ys.length ys ∧ ys.Perm xs := by
  obtain ⟨n, hn⟩ : ∃ n, xs.length = n := ⟨_, rfl⟩
  have hl : (y :: xs).length = n + 1 := by simp [hn]
  have hs := itF_swap (xs := y :: xs) (i := 0) (j := n) (by omega) (by omega)
  have hyx : ∀ i, 0 < i → itF (y :: xs) i = itF (x :: xs) i := fun i hi => by
    cases i with
    | zero => omega
    | succ i => simp [itF]
  obtain ⟨r1, r2, r3⟩ := downF_ok 0 n n 0 (swapF (y :: xs) 0 n) (Nat.le_refl _) (by omega) (by rw [swapF_len]; omega) (by
    intro i i0 hi _ hk
    rw [hs, hs, if_neg (by omega), if_neg hk, if_neg (by omega), if_neg (by omega), hyx _ (by omega), hyx _ i0]
    exact h i i0 (by omega) (Nat.zero_le _)) (by intro i hk; omega)
  have hpop : popF (y :: xs) = downF n (swapF (y :: xs) 0 n) 0 n := by unfold popF; rw [hl]; rfl
  obtain ⟨zs, hz⟩ : ∃ zs, downF n (swapF (y :: xs) 0 n) 0 n = zs := ⟨_, rfl⟩
  rw [hz] at r1 r2 r3 hpop
  have hzl : zs.length = n + 1 := by rw [r2.length_eq, swapF_len, hl]
  have hlast := r3 n (Nat.le_refl _)
  rw [hs, if_pos rfl] at hlast
  have h00 : itF (y :: xs) 0 = y := rfl
  rw [h00] at hlast
  have hsplit : zs = zs.take n ++ [y] := by
    rw [← hlast, itF_lt (by omega)]
    have := List.take_append_drop n zs
    rw [List.drop_eq_getElem_cons (by omega), List.drop_of_length_le (by omega)] at this
    exact this.symm
  have htl : (zs.take n).length = n := by rw [List.length_take]; omega
  refine ⟨zs.take n, by rw [hpop]; exact hsplit, ?_, ?_⟩
  · rw [htl]
    intro i i0 hi _
    have e : ∀ k, k < n → itF (zs.take n) k = itF zs k := fun k hk => by simp [itF, List.getElem?_take, hk]
    rw [e _ (by omega), e _ hi]
    exact r1 i i0 hi (Nat.zero_le _)
  · have h1 : (zs.take n ++ [y]).Perm (y :: xs) := by rw [← hsplit]; exact r2.trans (swapF_perm (by omega) (by omega))
    have h2 : (y :: zs.take n).Perm (y :: xs) := (List.perm_append_singleton y _).symm.trans h1
    exact List.Perm.cons_inv h2
/-- the first one changed -/
theorem fixF_ok (x : List Int) (xs : LL) (h : HeapF 0 (xs.length + 1) (x :: xs)) (y : List Int) :
    HeapF 0 (xs.length + 1) (downF (xs.length + 1) (y :: xs) 0 (xs.length + 1)) ∧ (downF (xs.length + 1) (y :: xs) 0 (xs.length + 1)).Perm (y :: xs) := by
  have hyx : ∀ i, 0 < i → itF (y :: xs) i = itF (x :: xs) i := fun i hi => by
    cases i with
    | zero => omega
    | succ i => simp [itF]
  obtain ⟨r1, r2, -⟩ := downF_ok 0 (xs.length + 1) (xs.length + 1) 0 (y :: xs) (Nat.le_refl _) (by omega) (by simp) (by
    intro i i0 hi _ hk
    rw [hyx _ (by omega), hyx _ i0]
    exact h i i0 hi (Nat.zero_le _)) (by intro i hk; omega)
  exact ⟨r1, r2⟩
/-- one number handed out -/
def stepF : LL → LL
  | [] => []
  | x :: xs => if x.tail = [] then (popF (x.tail :: xs)).dropLast else downF (xs.length + 1) (x.tail :: xs) 0 (xs.length + 1)
theorem stepF_cons (x : List Int) (xs : LL) : stepF (x :: xs) = if x.tail = [] then (popF (x.tail :: xs)).dropLast else downF (xs.length + 1) (x.tail :: xs) 0 (xs.length + 1) := rfl
def mergeF : Nat → LL → List Int
  | 0, _ => []
  | _ + 1, [] => []
  | f + 1, x :: xs => hdI x :: mergeF f (stepF (x :: xs))
def totF (xs : LL) : Nat := (xs.map List.length).sum
theorem totF_perm {a b : LL} (h : a.Perm b) : totF a = totF b := by
  unfold totF
  exact (h.map List.length).sum_nat
theorem stepF_ok (x : List Int) (xs : LL) (hx : x ≠ []) (h : HeapF 0 (xs.length + 1) (x :: xs)) :
    HeapF 0 (stepF (x :: xs)).length (stepF (x :: xs)) ∧ ∃ r, (stepF (x :: xs)).Perm r ∧ ((r = xs ∧ x.tail = []) ∨ (r = x.tail :: xs ∧ x.tail ≠ [])) := by
  rw [stepF_cons]
  by_cases ht : x.tail = []
  · rw [if_pos ht]
    obtain ⟨ys, h1, h2, h3⟩ := popF_ok x xs h x.tail
    rw [h1, List.dropLast_concat]
    exact ⟨h2, xs, h3, .inl ⟨rfl, ht⟩⟩
  · rw [if_neg ht]
    obtain ⟨h1, h2⟩ := fixF_ok x xs h x.tail
    have := h2.length_eq
    rw [this]
    exact ⟨h1, _, h2, .inr ⟨rfl, ht⟩⟩
/-- **what a heap of rising lists hands out** -/
theorem mergeF_ok : ∀ (f : Nat) (xs : LL), totF xs ≤ f → HeapF 0 xs.length xs → (∀ l ∈ xs, l ≠ [] ∧ UpI l) → (mergeF f xs).Pairwise (· ≤ ·) ∧ (∀ y, y ∈ mergeF f xs ↔ ∃ l ∈ xs, y ∈ l) ∧ (mergeF f xs).length = totF xs
  | 0, [], _, _, _ => by simp [mergeF, totF]
  | _ + 1, [], _, _, _ => by simp [mergeF, totF]
  | 0, x :: xs, ht, _, hl => by
    have hx := (hl x (by simp)).1
    simp [totF] at ht
    exact absurd ht.1 hx
  | f + 1, x :: xs, ht, hh, hl => by
    obtain ⟨hx, hu⟩ := hl x (by simp)
    obtain ⟨n, t, rfl⟩ : ∃ n t, x = n :: t := by cases x with | nil => exact absurd rfl hx | cons n t => exact ⟨n, t, rfl⟩
    obtain ⟨h1, r, h2, hr⟩ := stepF_ok (n :: t) xs hx hh
    simp only [List.tail_cons] at hr
    have hmem : ∀ y, (∃ l ∈ stepF ((n :: t) :: xs), y ∈ l) ↔ y ∈ t ∨ ∃ l ∈ xs, y ∈ l := by
      intro y
      constructor
      · rintro ⟨l, hl', hy⟩
        have := h2.mem_iff.1 hl'
        rcases hr with ⟨rfl, -⟩ | ⟨rfl, -⟩
        · exact .inr ⟨l, this, hy⟩
        · rcases List.mem_cons.1 this with rfl | h'
          · exact .inl hy
          · exact .inr ⟨l, h', hy⟩
      · rintro (hy | ⟨l, hl', hy⟩)
        · refine ⟨t, h2.mem_iff.2 ?_, hy⟩
          rcases hr with ⟨-, e⟩ | ⟨rfl, -⟩
          · rw [e] at hy; simp at hy
          · simp
        · refine ⟨l, h2.mem_iff.2 ?_, hy⟩
          rcases hr with ⟨rfl, -⟩ | ⟨rfl, -⟩
          · exact hl'
          · exact List.mem_cons_of_mem _ hl'
    have htot : totF (stepF ((n :: t) :: xs)) + 1 = totF ((n :: t) :: xs) := by
      rw [totF_perm h2]
      rcases hr with ⟨rfl, e⟩ | ⟨rfl, -⟩
      · rw [e]; simp [totF]; omega
      · simp [totF]; omega
    have hgood : ∀ l ∈ stepF ((n :: t) :: xs), l ≠ [] ∧ UpI l := by
      intro l hl'
      have := h2.mem_iff.1 hl'
      rcases hr with ⟨rfl, -⟩ | ⟨rfl, hne⟩
      · exact hl l (List.mem_cons_of_mem _ this)
      · rcases List.mem_cons.1 this with rfl | h'
        · exact ⟨hne, (List.pairwise_cons.1 hu).2⟩
        · exact hl l (List.mem_cons_of_mem _ h')
    obtain ⟨r1, r2, r3⟩ := mergeF_ok f (stepF ((n :: t) :: xs)) (by omega) h1 hgood
    have hleast : ∀ l ∈ xs, ∀ y ∈ l, n ≤ y := by
      intro l hl' y hy
      obtain ⟨i, hi, rfl⟩ := List.getElem_of_mem hl'
      have h3 := HeapF.least (n := xs.length + 1) hh (i + 1) (by omega)
      have e1 : itF ((n :: t) :: xs) 0 = n :: t := rfl
      have e2 : itF ((n :: t) :: xs) (i + 1) = xs[i] := by simp [itF, hi]
      rw [e1, e2] at h3
      have h4 := (hl xs[i] (List.mem_cons_of_mem _ (List.getElem_mem _))).2
      unfold leF hdI at h3
      revert hy h3 h4
      generalize xs[i] = q
      cases q with
      | nil => intro hy; simp at hy
      | cons a q =>
        intro hy h3 h4
        simp at h3
        rcases List.mem_cons.1 hy with rfl | hy
        · exact h3
        · have := (List.pairwise_cons.1 h4).1 y hy; omega
    refine ⟨?_, ?_, ?_⟩
    · refine List.pairwise_cons.2 ⟨fun y hy => ?_, r1⟩
      show n ≤ y
      rcases (hmem y).1 ((r2 y).1 hy) with hy | ⟨l, hl', hy⟩
      · have := (List.pairwise_cons.1 hu).1 y hy; omega
      · exact hleast l hl' y hy
    · intro y
      show y ∈ n :: mergeF f (stepF ((n :: t) :: xs)) ↔ _
      rw [List.mem_cons, r2, hmem]
      simp only [List.mem_cons, exists_eq_or_imp]
      constructor
      · rintro (h | h | h)
        · exact .inl (.inl h)
        · exact .inl (.inr h)
        · exact .inr h
      · rintro ((h | h) | h)
        · exact .inl h
        · exact .inr (.inl h)
        · exact .inr (.inr h)
    · show (mergeF f (stepF ((n :: t) :: xs))).length + 1 = _
      rw [r3, htot]
/-- Merge keeps what is more than the last -/
def keepM (out : List Int) (n : Int) : List Int := if out = [] ∨ out.getLastD 0 < n then out ++ [n] else out
theorem keepM_ok : ∀ (zs out : List Int), UpI out → zs.Pairwise (· ≤ ·) → (∀ y ∈ out, ∀ z ∈ zs, y ≤ z) → UpI (zs.foldl keepM out) ∧ ∀ y, y ∈ zs.foldl keepM out ↔ y ∈ out ∨ y ∈ zs
  | [], out, h, _, _ => ⟨h, by simp⟩
  | z :: zs, out, h, hz, hle => by
    have hz := List.pairwise_cons.1 hz
    have hlast : out ≠ [] → ∃ o1, out = o1 ++ [out.getLastD 0] := fun hne => ⟨out.dropLast, by
      have := List.dropLast_concat_getLast hne
      have e : out.getLastD 0 = out.getLast hne := by rw [List.getLastD_eq_getLast?, List.getLast?_eq_some_getLast hne]; rfl
      rw [e]
      exact this.symm⟩
    rw [List.foldl_cons]
    by_cases hc : out = [] ∨ out.getLastD 0 < z
    · have e : keepM out z = out ++ [z] := by unfold keepM; rw [if_pos hc]
      rw [e]
      have hup : UpI (out ++ [z]) := by
        refine List.pairwise_append.2 ⟨h, List.pairwise_singleton _ _, fun a ha b hb => ?_⟩
        obtain rfl : b = z := by simpa using hb
        rcases hc with rfl | hc
        · simp at ha
        · obtain ⟨o1, ho⟩ := hlast (by intro e; subst e; simp at ha)
          rw [ho] at ha h
          have h' := List.pairwise_append.1 h
          rcases List.mem_append.1 ha with ha | ha
          · have := h'.2.2 a ha (out.getLastD 0) (List.mem_singleton.2 rfl); omega
          · have : a = out.getLastD 0 := List.mem_singleton.1 ha
            omega
      obtain ⟨h1, h2⟩ := keepM_ok zs (out ++ [z]) hup hz.2 (fun y hy w hw => by
        rcases List.mem_append.1 hy with hy | hy
        · exact hle y hy w (List.mem_cons_of_mem _ hw)
        · have : y = z := by simpa using hy
          subst this
          exact hz.1 w hw)
      refine ⟨h1, fun y => ?_⟩
      rw [h2, List.mem_append, List.mem_cons]
      simp only [List.mem_cons, List.not_mem_nil, or_false]
      constructor
      · rintro ((h | h) | h)
        · exact .inl h
        · exact .inr (.inl h)
        · exact .inr (.inr h)
      · rintro (h | h | h)
        · exact .inl (.inl h)
        · exact .inl (.inr h)
        · exact .inr h
    · have e : keepM out z = out := by unfold keepM; rw [if_neg hc]
      rw [e]
      obtain ⟨h1, h2⟩ := keepM_ok zs out h hz.2 (fun y hy w hw => hle y hy w (List.mem_cons_of_mem _ hw))
      refine ⟨h1, fun y => ?_⟩
      have hne : out ≠ [] := fun e => hc (.inl e)
      have hmem : z ∈ out := by
        obtain ⟨o1, ho⟩ := hlast hne
        have hl : out.getLastD 0 ∈ out := by rw [ho]; simp
        have h3 := hle _ hl z (by simp)
        have h4 : ¬ out.getLastD 0 < z := fun e => hc (.inr e)
        have : out.getLastD 0 = z := by omega
        rw [← this]; exact hl
      rw [h2, List.mem_cons]
      constructor
      · rintro (h | h)
        · exact .inl h
        · exact .inr (.inr h)
      · rintro (h | rfl | h)
        · exact .inl h
        · exact .inl hmem
        · exact .inr h
/-- **Merge** -/
theorem merge_srt (zs all : List Int) (hz : zs.Pairwise (· ≤ ·)) (h : ∀ y, y ∈ zs ↔ y ∈ all) : zs.foldl keepM [] = srtI all := by
  obtain ⟨h1, h2⟩ := keepM_ok zs [] List.Pairwise.nil hz (fun y hy => by simp at hy)
  exact srtI_of _ _ h1 fun y => by rw [h2, ← h]; simp
end Go.Proofs.Ytlgodokgebjjaaa

/- rising lists of numbers, plain -/
import Init
set_option linter.unusedVariables false
set_option linter.unusedSimpArgs false
namespace Go.Proofs.Ytlgodokgebjjaaa

/-- **one more** -/
def insI (s : Int) : List Int → List Int
  | [] => [s]
  | x :: t => if x < s then x :: insI s t else if x = s then x :: t else s :: x :: t
def srtI (ls : List Int) : List Int := ls.foldl (fun out s => insI s out) []
def UpI (l : List Int) : Prop := l.Pairwise (· < ·)
theorem mem_insI (s : Int) : ∀ (l : List Int) (y : Int), y ∈ insI s l ↔ y = s ∨ y ∈ l
  | [], y => by simp [insI]
  | x :: t, y => by
    unfold insI
    split
    · rw [List.mem_cons, mem_insI s t y, List.mem_cons]
      constructor
      · rintro (h | h | h)
        · exact .inr (.inl h)
        · exact .inl h
        · exact .inr (.inr h)
      · rintro (h | h | h)
        · exact .inr (.inl h)
        · exact .inl h
        · exact .inr (.inr h)
    · split
      · rename_i h
        rw [List.mem_cons]
        constructor
        · exact .inr
        · rintro (rfl | h')
          · exact .inl h.symm
          · exact h'
      · rw [List.mem_cons]
theorem insI_up (s : Int) : ∀ (l : List Int), UpI l → UpI (insI s l)
  | [], _ => by simp [insI, UpI]
  | x :: t, h => by
    have h := List.pairwise_cons.1 h
    unfold insI
    split
    · rename_i hx
      refine List.pairwise_cons.2 ⟨fun y hy => ?_, insI_up s t h.2⟩
      rcases (mem_insI s t y).1 hy with rfl | hy
      · exact hx
      · exact h.1 y hy
    · split
      · exact List.pairwise_cons.2 h
      · rename_i h1 h2
        refine List.pairwise_cons.2 ⟨fun y hy => ?_, List.pairwise_cons.2 h⟩
        rcases List.mem_cons.1 hy with rfl | hy
        · omega
        · have := h.1 y hy; omega
theorem srtI_fold : ∀ (ls out : List Int), UpI out → UpI (ls.foldl (fun out s => insI s out) out) ∧ ∀ y, y ∈ ls.foldl (fun out s => insI s out) out ↔ y ∈ out ∨ y ∈ ls
  | [], out, h => ⟨h, by simp⟩
  | s :: t, out, h => by
    obtain ⟨h1, h2⟩ := srtI_fold t (insI s out) (insI_up s out h)
    refine ⟨h1, fun y => ?_⟩
    rw [List.foldl_cons, h2 y, mem_insI, List.mem_cons]
    constructor
    · rintro ((h | h) | h)
      · exact .inr (.inl h)
      · exact .inl h
      · exact .inr (.inr h)
    · rintro (h | h | h)
      · exact .inl (.inr h)
      · exact .inl (.inl h)
      · exact .inr h
theorem srtI_up (ls : List Int) : UpI (srtI ls) := (srtI_fold ls [] List.Pairwise.nil).1
theorem mem_srtI (ls : List Int) (y : Int) : y ∈ srtI ls ↔ y ∈ ls := by
  have := (srtI_fold ls [] List.Pairwise.nil).2 y
  unfold srtI
  rw [this]
  simp
/-- two rising lists of the same are one -/
theorem upI_unique : ∀ (a b : List Int), UpI a → UpI b → (∀ y, y ∈ a ↔ y ∈ b) → a = b
  | [], [], _, _, _ => rfl
  | [], y :: b, _, _, h => by have := (h y).2 (by simp); simp at this
  | x :: a, [], _, _, h => by have := (h x).1 (by simp); simp at this
  | x :: a, y :: b, ha, hb, h => by
    have ha := List.pairwise_cons.1 ha
    have hb := List.pairwise_cons.1 hb
    have e : x = y := by
      rcases List.mem_cons.1 ((h x).1 (by simp)) with e | h1
      · exact e
      · rcases List.mem_cons.1 ((h y).2 (by simp)) with e | h2
        · exact e.symm
        · have := hb.1 x h1; have := ha.1 y h2; omega
    subst e
    congr 1
    refine upI_unique a b ha.2 hb.2 fun z => ⟨fun hz => ?_, fun hz => ?_⟩
    · rcases List.mem_cons.1 ((h z).1 (List.mem_cons_of_mem _ hz)) with rfl | h1
      · have := ha.1 z hz; omega
      · exact h1
    · rcases List.mem_cons.1 ((h z).2 (List.mem_cons_of_mem _ hz)) with rfl | h1
      · have := hb.1 z hz; omega
      · exact h1
/-- **a rising list is as it is** -/
theorem srtI_same (l : List Int) (h : UpI l) : srtI l = l := upI_unique _ _ (srtI_up l) h (mem_srtI l)
theorem srtI_of (a b : List Int) (ha : UpI a) (h : ∀ y, y ∈ a ↔ y ∈ b) : a = srtI b := upI_unique _ _ ha (srtI_up b) fun y => by rw [mem_srtI, h]
theorem srtI_eq (a b : List Int) (h : ∀ y, y ∈ a ↔ y ∈ b) : srtI a = srtI b := upI_unique _ _ (srtI_up a) (srtI_up b) fun y => by rw [mem_srtI, mem_srtI, h]
/-- whether it rises -/
def riseB : List Int → Bool
  | [] => true
  | x :: t => match t with
    | [] => true
    | y :: _ => decide (x < y) && riseB t
theorem riseB_iff : ∀ (l : List Int), riseB l = true ↔ UpI l
  | [] => by simp [riseB, UpI]
  | [x] => by simp [riseB, UpI]
  | x :: y :: t => by
    rw [riseB]
    simp only [Bool.and_eq_true, decide_eq_true_eq]
    rw [riseB_iff (y :: t)]
    unfold UpI
    constructor
    · rintro ⟨h1, h2⟩
      refine List.pairwise_cons.2 ⟨fun z hz => ?_, h2⟩
      rcases List.mem_cons.1 hz with rfl | hz
      · exact h1
      · have := (List.pairwise_cons.1 h2).1 z hz; omega
    · intro h
      have h := List.pairwise_cons.1 h
      exact ⟨h.1 y (by simp), h.2⟩
/-- two beside each other -/
theorem riseB_at (l : List Int) : riseB l = true ↔ ∀ i (h : i + 1 < l.length), l[i] < l[i + 1] := by
  rw [riseB_iff]
  unfold UpI
  constructor
  · intro h i hi
    exact List.pairwise_iff_getElem.1 h i (i + 1) (by omega) hi (by omega)
  · intro h
    refine List.pairwise_iff_getElem.2 fun i j hi hj hij => ?_
    have : ∀ d, ∀ i j (hi : i < l.length) (hj : j < l.length), j = i + d + 1 → l[i] < l[j] := by
      intro d
      induction d with
      | zero => intro i j hi hj e; subst e; exact h i hj
      | succ d ih =>
        intro i j hi hj e
        have h1 := ih i (j - 1) hi (by omega) (by omega)
        have h2 := h (j - 1) (by omega)
        have e2 : j - 1 + 1 = j := by omega
        simp only [e2] at h2
        omega
    exact this (j - i - 1) i j hi hj (by omega)
/-- neighbours that are alike are one -/
def cpt : List Int → List Int
  | [] => []
  | x :: t => match cpt t with
    | [] => [x]
    | y :: r => if x = y then y :: r else x :: y :: r
theorem mem_cpt : ∀ (l : List Int) (y : Int), y ∈ cpt l ↔ y ∈ l
  | [], y => by simp [cpt]
  | x :: t, y => by
    have ih := mem_cpt t y
    unfold cpt
    cases h : cpt t with
    | nil => rw [h] at ih; simp at ih; simp [ih]
    | cons z r =>
      rw [h] at ih
      simp only
      split
      · rename_i e; subst e; rw [ih, List.mem_cons]
        constructor
        · exact .inr
        · rintro (rfl | h')
          · exact ih.1 (by simp)
          · exact h'
      · rw [List.mem_cons, ih, List.mem_cons]
theorem cpt_head : ∀ (l : List Int), (cpt l).head? = l.head?
  | [] => rfl
  | x :: t => by
    unfold cpt
    cases h : cpt t with
    | nil => rfl
    | cons z r => simp only; split <;> simp_all
theorem cpt_up : ∀ (l : List Int), l.Pairwise (· ≤ ·) → UpI (cpt l)
  | [], _ => List.Pairwise.nil
  | x :: t, h => by
    have h := List.pairwise_cons.1 h
    have ih := cpt_up t h.2
    unfold cpt
    cases hc : cpt t with
    | nil => exact List.pairwise_singleton _ _
    | cons z r =>
      rw [hc] at ih
      simp only
      split
      · exact ih
      · rename_i hne
        refine List.pairwise_cons.2 ⟨fun y hy => ?_, ih⟩
        have hz : z ∈ t := (mem_cpt t z).1 (by rw [hc]; simp)
        have h1 := h.1 z hz
        rcases List.mem_cons.1 hy with rfl | hy
        · omega
        · have := (List.pairwise_cons.1 ih).1 y hy; omega
/-- **sorted, and each once** -/
theorem sort_cpt (l m : List Int) (hs : m.Pairwise (· ≤ ·)) (hp : ∀ y, y ∈ m ↔ y ∈ l) : cpt m = srtI l := srtI_of _ _ (cpt_up m hs) fun y => by rw [mem_cpt, hp]
/-- where a number stands or would stand -/
def fstN (s : Int) : List Int → Nat
  | [] => 0
  | x :: t => if x < s then fstN s t + 1 else 0
theorem fstN_le (s : Int) : ∀ (l : List Int), fstN s l ≤ l.length
  | [] => by simp [fstN]
  | x :: t => by unfold fstN; split <;> simp; exact fstN_le s t
theorem fstN_drop (s : Int) (l : List Int) (j : Nat) (h : j < l.length) : fstN s (l.drop j) = if l[j] < s then fstN s (l.drop (j + 1)) + 1 else 0 := by
  rw [List.drop_eq_getElem_cons h, fstN]
theorem insI_at (s : Int) : ∀ (l : List Int), insI s l = if l[fstN s l]? = some s then l else l.take (fstN s l) ++ (s :: l.drop (fstN s l))
  | [] => by simp [insI, fstN]
  | x :: t => by
    unfold insI fstN
    by_cases h : x < s
    · rw [if_pos h, if_pos h, insI_at s t]
      simp only [List.getElem?_cons_succ, List.take_succ_cons, List.drop_succ_cons]
      split <;> rfl
    · rw [if_neg h, if_neg h]
      simp only [List.getElem?_cons_zero, List.take_zero, List.drop_zero, List.nil_append, Option.some.injEq]
theorem insI_len (s : Int) : ∀ (l : List Int), (insI s l).length ≤ l.length + 1
  | [] => by simp [insI]
  | x :: t => by
    unfold insI
    split
    · have := insI_len s t; simp; omega
    · split <;> simp
theorem srtI_len (ls : List Int) : (srtI ls).length ≤ ls.length := by
  have : ∀ (ls out : List Int), (ls.foldl (fun out s => insI s out) out).length ≤ out.length + ls.length := by
    intro ls
    induction ls with
    | nil => simp
    | cons s t ih => intro out; have := ih (insI s out); have := insI_len s out; simp at *; omega
  have := this ls []
  simpa [srtI] using this
theorem srtI_snoc (ls : List Int) (k : Nat) (s : Int) (h : ls[k]? = some s) : srtI (ls.take (k + 1)) = insI s (srtI (ls.take k)) := by
  have hk : k < ls.length := (List.getElem?_eq_some_iff.1 h).1
  rw [List.getElem?_eq_getElem hk] at h
  cases h
  unfold srtI
  rw [List.take_succ_eq_append_getElem hk, List.foldl_append]
  rfl
/-- what a has, and b has, or hasn't -/
def both (a b : List Int) (has : Bool) : List Int := (srtI a).filter fun n => decide (n ∈ b) == has
theorem both_up (a b : List Int) (has : Bool) : UpI (both a b has) := List.Pairwise.filter _ (srtI_up a)
theorem mem_both (a b : List Int) (has : Bool) (y : Int) : y ∈ both a b has ↔ y ∈ a ∧ (decide (y ∈ b) = has) := by
  unfold both
  rw [List.mem_filter, mem_srtI]
  simp
/-! the laws of sets -/
theorem law1 (a b : List Int) : both a b true = both b a true := upI_unique _ _ (both_up _ _ _) (both_up _ _ _) fun y => by rw [mem_both, mem_both]; simp; exact And.comm
theorem law2 (a b : List Int) : srtI (a ++ b) = srtI (b ++ a) := srtI_eq _ _ fun y => by simp; exact Or.comm
theorem law3 (a b c : List Int) : both a (srtI (b ++ c)) true = srtI (both a b true ++ both a c true) := srtI_of _ _ (both_up _ _ _) fun y => by
  rw [mem_both, List.mem_append, mem_both, mem_both]
  simp only [decide_eq_true_eq]
  rw [mem_srtI, List.mem_append]
  constructor
  · rintro ⟨h, h' | h'⟩
    · exact .inl ⟨h, h'⟩
    · exact .inr ⟨h, h'⟩
  · rintro (⟨h, h'⟩ | ⟨h, h'⟩)
    · exact ⟨h, .inl h'⟩
    · exact ⟨h, .inr h'⟩
theorem law4 (a b : List Int) : srtI (both a b false ++ both a b true) = srtI a := srtI_eq _ _ fun y => by
  rw [List.mem_append, mem_both, mem_both]
  simp only [decide_eq_true_eq, decide_eq_false_iff_not]
  constructor
  · rintro (⟨h, h'⟩ | ⟨h, h'⟩) <;> exact h
  · intro h
    by_cases h' : y ∈ b
    · exact .inr ⟨h, h'⟩
    · exact .inl ⟨h, h'⟩
theorem law5 (a b c : List Int) : both a (srtI (b ++ c)) false = both (both a b false) (both a c false) true := upI_unique _ _ (both_up _ _ _) (both_up _ _ _) fun y => by
  rw [mem_both, mem_both]
  simp only [decide_eq_true_eq, decide_eq_false_iff_not]
  rw [mem_srtI, List.mem_append, mem_both, mem_both]
  simp only [decide_eq_false_iff_not]
  constructor
  · rintro ⟨h, h'⟩
    exact ⟨⟨h, fun h2 => h' (.inl h2)⟩, h, fun h2 => h' (.inr h2)⟩
  · rintro ⟨⟨h, h1⟩, -, h2⟩
    exact ⟨h, fun h' => h'.elim h1 h2⟩
end Go.Proofs.Ytlgodokgebjjaaa

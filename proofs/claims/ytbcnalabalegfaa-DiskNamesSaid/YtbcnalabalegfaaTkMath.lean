/- words, plain -/
import Init
set_option linter.unusedVariables false
set_option linter.unusedSimpArgs false
namespace Go.Proofs.Ytbcnalabalegfaa

/-- a byte of a word, made small; 0: it is none -/
def ltr (x : Nat) : Nat := if 97 ≤ x ∧ x ≤ 122 ∨ 48 ≤ x ∧ x ≤ 57 then x else if 65 ≤ x ∧ x ≤ 90 then x + 32 else 0
def lt8 (c : UInt8) : UInt8 := UInt8.ofNat (ltr c.toNat)
theorem ltr_lt (x : Nat) (h : x < 256) : ltr x < 256 := by unfold ltr; split <;> (try split) <;> omega
theorem lt8_nat (c : UInt8) : (lt8 c).toNat = ltr c.toNat := by
  unfold lt8
  rw [UInt8.toNat_ofNat']
  exact Nat.mod_eq_of_lt (ltr_lt _ c.toNat_lt)
/-- whether a byte stands in a word -/
def partB (x : Nat) : Bool := decide (97 ≤ x ∧ x ≤ 122) || decide (65 ≤ x ∧ x ≤ 90) || decide (48 ≤ x ∧ x ≤ 57)
theorem partB_iff (x : Nat) : partB x = true ↔ ltr x ≠ 0 := by
  unfold partB ltr
  simp only [Bool.or_eq_true, decide_eq_true_eq]
  split
  · omega
  · split <;> omega
/-- made small -/
def lo8 (c : UInt8) : UInt8 := if 65 ≤ c.toNat ∧ c.toNat ≤ 90 then UInt8.ofNat (c.toNat + 32) else c
def lowL (l : List UInt8) : List UInt8 := l.map lo8
theorem lo_lt (c : UInt8) (h : partB c.toNat = true) : lo8 c = lt8 c := by
  have := (partB_iff _).1 h
  unfold lt8 lo8
  unfold ltr at this ⊢
  split
  · rw [if_neg (by omega)]
  · rename_i h1
    rw [if_neg h1] at this
    split
    · simp
    · rename_i h2; rw [if_neg h2] at this; exact absurd rfl this
/-- **the words**: what stands in hand; what is to come -/
def wd (run : List UInt8) : List UInt8 → List (List UInt8)
  | [] => []
  | c :: t => if lt8 c ≠ 0 then wd (if run.length < 32 then run ++ [lt8 c] else run) t else if run ≠ [] then run :: wd [] t else wd [] t
def words (l : List UInt8) : List (List UInt8) := wd [] (l ++ [0])
/-- the words as the reference has them -/
def rd (s : List UInt8) : List UInt8 → List (List UInt8)
  | [] => []
  | c :: t => if partB c.toNat = true then rd (s ++ [c]) t else if s ≠ [] then lowL (s.take 32) :: rd [] t else rd [] t
theorem lt8_iff (c : UInt8) : lt8 c ≠ 0 ↔ partB c.toNat = true := by
  rw [partB_iff, ← lt8_nat]
  constructor
  · intro h h'; exact h (UInt8.toNat_inj.1 (by rw [h']; rfl))
  · intro h h'; rw [h'] at h; exact h rfl
theorem rd_eq : ∀ (t s : List UInt8), wd (lowL (s.take 32)) t = rd s t
  | [], s => rfl
  | c :: t, s => by
    unfold wd rd
    by_cases h : partB c.toNat = true
    · rw [if_pos ((lt8_iff c).2 h), if_pos h, ← rd_eq t (s ++ [c])]
      congr 1
      by_cases hl : s.length < 32
      · rw [if_pos (by unfold lowL; rw [List.length_map, List.length_take]; omega), List.take_of_length_le (by omega), List.take_of_length_le (by simp; omega)]
        unfold lowL
        rw [List.map_append]
        simp only [List.map_cons, List.map_nil, lo_lt c h]
      · rw [if_neg (by unfold lowL; rw [List.length_map, List.length_take]; omega), List.take_append_of_le_length (by omega)]
    · rw [if_neg (fun h' => h ((lt8_iff c).1 h')), if_neg h]
      have e : (lowL (s.take 32) ≠ []) ↔ s ≠ [] := by
        unfold lowL
        cases s <;> simp
      by_cases hs : s ≠ []
      · rw [if_pos (e.2 hs), if_pos hs]
        congr 1
        exact rd_eq t []
      · rw [if_neg (fun h' => hs (e.1 h')), if_neg hs]
        exact rd_eq t []
theorem words_rd (l : List UInt8) : words l = rd [] (l ++ [0]) := rd_eq (l ++ [0]) []
theorem wd_letter (run t : List UInt8) (c : UInt8) (h : lt8 c ≠ 0) : wd run (c :: t) = wd (if run.length < 32 then run ++ [lt8 c] else run) t := by rw [wd, if_pos h]
theorem wd_flush (run t : List UInt8) (c : UInt8) (h : lt8 c = 0) (hr : run ≠ []) : wd run (c :: t) = run :: wd [] t := by rw [wd, if_neg (by simp [h]), if_pos hr]
theorem wd_skip (t : List UInt8) (c : UInt8) (h : lt8 c = 0) : wd [] (c :: t) = wd [] t := by rw [wd, if_neg (by simp [h]), if_neg (by simp)]
theorem wd_append (c : UInt8) (hc : lt8 c = 0) : ∀ (a run t : List UInt8), wd run (a ++ c :: t) = wd run (a ++ [0]) ++ wd [] t
  | [], run, t => by
    show wd run (c :: t) = wd run [0] ++ wd [] t
    have h0 : lt8 0 = 0 := by decide
    by_cases h : run ≠ []
    · rw [wd_flush _ _ _ hc h, wd_flush _ _ _ h0 h]; rfl
    · obtain rfl : run = [] := by simpa using h
      rw [wd_skip _ _ hc, wd_skip _ _ h0]; rfl
  | x :: a, run, t => by
    show wd run (x :: (a ++ c :: t)) = wd run (x :: (a ++ [0])) ++ wd [] t
    by_cases hx : lt8 x = 0
    · by_cases h : run ≠ []
      · rw [wd_flush _ _ _ hx h, wd_flush _ _ _ hx h, wd_append c hc a [] t]; rfl
      · obtain rfl : run = [] := by simpa using h
        rw [wd_skip _ _ hx, wd_skip _ _ hx, wd_append c hc a [] t]
    · rw [wd_letter _ _ _ hx, wd_letter _ _ _ hx, wd_append c hc a _ t]
theorem words_joined (a b : List UInt8) : words (a ++ 32 :: b) = words a ++ words b := by
  unfold words
  rw [List.append_assoc, List.cons_append]
  exact wd_append 32 (by decide) a [] _
theorem wd_map (f : UInt8 → UInt8) (hf : ∀ c, lt8 (f c) = lt8 c) : ∀ (t run : List UInt8), wd run (t.map f) = wd run t
  | [], run => rfl
  | c :: t, run => by
    rw [List.map_cons]
    unfold wd
    rw [hf c, wd_map f hf t, wd_map f hf t]
theorem ltr_zero : ltr 0 = 0 := by decide
/-- made great -/
def up8 (c : UInt8) : UInt8 := if 97 ≤ c.toNat ∧ c.toNat ≤ 122 then UInt8.ofNat (c.toNat - 32) else c
theorem lt8_up (c : UInt8) : lt8 (up8 c) = lt8 c := by
  unfold up8
  split
  · rename_i h
    unfold lt8
    congr 1
    rw [UInt8.toNat_ofNat', Nat.mod_eq_of_lt (by omega)]
    unfold ltr
    rw [if_neg (by omega), if_pos (by omega), if_pos (by omega)]
    omega
  · rfl
theorem words_up (l : List UInt8) : words (l.map up8) = words l := by
  unfold words
  rw [← wd_map up8 lt8_up (l ++ [0]) [], List.map_append]
  rfl
/-- a text that may be a word, but for its length -/
def small1 (x : Nat) : Bool := decide (ltr x = x) && decide (x ≠ 0)
def good (l : List UInt8) : Bool := l.all fun c => small1 c.toNat
def termB (l : List UInt8) : Bool := good l && decide (l ≠ []) && decide (l.length ≤ 32)
theorem small1_iff (x : Nat) : small1 x = (partB x && !(decide (65 ≤ x) && decide (x ≤ 90))) := by
  unfold small1 partB ltr
  apply Bool.eq_iff_iff.2
  simp only [Bool.and_eq_true, Bool.or_eq_true, Bool.not_eq_true', Bool.and_eq_false_iff, decide_eq_true_eq, decide_eq_false_iff_not]
  split
  · omega
  · split <;> omega
theorem ltr_small (x : Nat) (h : ltr x ≠ 0) : small1 (ltr x) = true := by
  unfold small1 ltr at *
  simp only [Bool.and_eq_true, decide_eq_true_eq]
  split
  · rename_i h1; rw [if_pos h1] at h; exact ⟨rfl, h⟩
  · rename_i h1
    rw [if_neg h1] at h
    split
    · rw [if_pos (by omega)]; exact ⟨rfl, by omega⟩
    · rename_i h2; rw [if_neg h2] at h; exact absurd rfl h
theorem wd_good : ∀ (t run : List UInt8), good run = true → run.length ≤ 32 → ∀ x ∈ wd run t, termB x = true
  | [], run, h1, h2, x, hx => by simp [wd] at hx
  | c :: t, run, h1, h2, x, hx => by
    unfold wd at hx
    split at hx
    · rename_i hc
      refine wd_good t _ ?_ ?_ x hx
      · split
        · unfold good at h1 ⊢
          rw [List.all_append, h1]
          simp only [List.all_cons, List.all_nil, Bool.and_true, Bool.true_and]
          rw [lt8_nat]
          refine ltr_small _ (fun h => ?_)
          rw [← lt8_nat] at h
          exact hc (UInt8.toNat_inj.1 (by rw [h]; rfl))
        · exact h1
      · split
        · simp; omega
        · exact h2
    · split at hx
      · rename_i hr
        rcases List.mem_cons.1 hx with rfl | hx
        · unfold termB; rw [h1, decide_eq_true hr, decide_eq_true h2]; rfl
        · exact wd_good t [] rfl (by simp) x hx
      · exact wd_good t [] rfl (by simp) x hx
theorem words_good (l : List UInt8) : ∀ x ∈ words l, termB x = true := wd_good _ [] rfl (by simp)
theorem wd_len : ∀ (t run : List UInt8), (wd run t).length ≤ t.length
  | [], run => by simp [wd]
  | c :: t, run => by
    unfold wd
    split
    · have := wd_len t (if run.length < 32 then run ++ [lt8 c] else run); simp; omega
    · split
      · have := wd_len t []; simp; omega
      · have := wd_len t []; simp; omega
theorem words_len (l : List UInt8) : (words l).length ≤ l.length + 1 := by
  have := wd_len (l ++ [0]) []
  unfold words
  simp at this
  exact this
theorem words_le (l x : List UInt8) (h : x ∈ words l) : x.length ≤ 32 := by
  have := words_good l x h
  unfold termB at this
  simp at this
  exact this.2

/-! ### sets: rising lists -/
/-- **one more** -/
def ins1 (s : List UInt8) : List (List UInt8) → List (List UInt8)
  | [] => [s]
  | x :: t => if x < s then x :: ins1 s t else if x = s then x :: t else s :: x :: t
def srt (ls : List (List UInt8)) : List (List UInt8) := ls.foldl (fun out s => ins1 s out) []
def Up (l : List (List UInt8)) : Prop := l.Pairwise (· < ·)
theorem mem_ins1 (s : List UInt8) : ∀ (l : List (List UInt8)) (y : List UInt8), y ∈ ins1 s l ↔ y = s ∨ y ∈ l
  | [], y => by simp [ins1]
  | x :: t, y => by
    unfold ins1
    split
    · rw [List.mem_cons, mem_ins1 s t y, List.mem_cons]
      constructor
      · rintro (h | h | h)
        · exact .inr (.inl h)
        · exact .inl h
        · exact .inr (.inr h)
      · rintro (h | h | h)
        · exact .inr (.inl h)
        · exact .inl h
        · exact .inr (.inr h)
    · split
      · rename_i h
        rw [List.mem_cons]
        constructor
        · exact .inr
        · rintro (rfl | h')
          · exact .inl h.symm
          · exact h'
      · rw [List.mem_cons]
theorem lt_of_not (x s : List UInt8) (h1 : ¬ x < s) (h2 : ¬ x = s) : s < x := by
  rcases Decidable.em (s < x) with h | h
  · exact h
  · exact absurd (List.le_antisymm (List.not_lt.1 h) (List.not_lt.1 h1)) h2
theorem ins1_up (s : List UInt8) : ∀ (l : List (List UInt8)), Up l → Up (ins1 s l)
  | [], _ => by simp [ins1, Up]
  | x :: t, h => by
    have h := List.pairwise_cons.1 h
    unfold ins1
    split
    · rename_i hx
      refine List.pairwise_cons.2 ⟨fun y hy => ?_, ins1_up s t h.2⟩
      rcases (mem_ins1 s t y).1 hy with rfl | hy
      · exact hx
      · exact h.1 y hy
    · split
      · exact List.pairwise_cons.2 h
      · rename_i h1 h2
        have hs := lt_of_not x s h1 h2
        refine List.pairwise_cons.2 ⟨fun y hy => ?_, List.pairwise_cons.2 h⟩
        rcases List.mem_cons.1 hy with rfl | hy
        · exact hs
        · exact List.lt_trans hs (h.1 y hy)
theorem srt_fold : ∀ (ls out : List (List UInt8)), Up out → Up (ls.foldl (fun out s => ins1 s out) out) ∧ ∀ y, y ∈ ls.foldl (fun out s => ins1 s out) out ↔ y ∈ out ∨ y ∈ ls
  | [], out, h => ⟨h, by simp⟩
  | s :: t, out, h => by
    obtain ⟨h1, h2⟩ := srt_fold t (ins1 s out) (ins1_up s out h)
    refine ⟨h1, fun y => ?_⟩
    rw [List.foldl_cons, h2 y, mem_ins1, List.mem_cons]
    constructor
    · rintro ((h | h) | h)
      · exact .inr (.inl h)
      · exact .inl h
      · exact .inr (.inr h)
    · rintro (h | h | h)
      · exact .inl (.inr h)
      · exact .inl (.inl h)
      · exact .inr h
theorem srt_up (ls : List (List UInt8)) : Up (srt ls) := (srt_fold ls [] List.Pairwise.nil).1
theorem mem_srt (ls : List (List UInt8)) (y : List UInt8) : y ∈ srt ls ↔ y ∈ ls := by
  have := (srt_fold ls [] List.Pairwise.nil).2 y
  unfold srt
  rw [this]
  simp
/-- two rising lists of the same are one -/
theorem up_unique : ∀ (a b : List (List UInt8)), Up a → Up b → (∀ y, y ∈ a ↔ y ∈ b) → a = b
  | [], [], _, _, _ => rfl
  | [], y :: b, _, _, h => by have := (h y).2 (by simp); simp at this
  | x :: a, [], _, _, h => by have := (h x).1 (by simp); simp at this
  | x :: a, y :: b, ha, hb, h => by
    have ha := List.pairwise_cons.1 ha
    have hb := List.pairwise_cons.1 hb
    have e : x = y := by
      rcases List.mem_cons.1 ((h x).1 (by simp)) with e | h1
      · exact e
      · rcases List.mem_cons.1 ((h y).2 (by simp)) with e | h2
        · exact e.symm
        · exact absurd (List.lt_trans (hb.1 x h1) (ha.1 y h2)) (List.lt_irrefl y)
    subst e
    congr 1
    refine up_unique a b ha.2 hb.2 fun z => ⟨fun hz => ?_, fun hz => ?_⟩
    · rcases List.mem_cons.1 ((h z).1 (List.mem_cons_of_mem _ hz)) with rfl | h1
      · exact absurd (ha.1 z hz) (List.lt_irrefl z)
      · exact h1
    · rcases List.mem_cons.1 ((h z).2 (List.mem_cons_of_mem _ hz)) with rfl | h1
      · exact absurd (hb.1 z hz) (List.lt_irrefl z)
      · exact h1
/-- a sorted list that has nothing twice rises -/
theorem sorted_up (ss : List (List UInt8)) (hn : ss.Nodup) : Up (ss.mergeSort fun x y => decide (x ≤ y)) := by
  have tr : ∀ a b c : List UInt8, decide (a ≤ b) = true → decide (b ≤ c) = true → decide (a ≤ c) = true := fun a b c h1 h2 => by simp only [decide_eq_true_eq] at *; exact List.le_trans h1 h2
  have to : ∀ a b : List UInt8, (decide (a ≤ b) || decide (b ≤ a)) = true := fun a b => by simp only [Bool.or_eq_true, decide_eq_true_eq]; exact List.le_total a b
  have h1 := List.pairwise_mergeSort tr to ss
  have h2 : (ss.mergeSort fun x y => decide (x ≤ y)).Nodup := (List.mergeSort_perm ss _).nodup_iff.2 hn
  have h3 := List.Pairwise.and h1 h2
  refine h3.imp fun {a b} h => ?_
  have h4 : a ≤ b := of_decide_eq_true h.1
  rcases Decidable.em (a < b) with h | hh
  · exact h
  · exact absurd (List.le_antisymm h4 (List.not_lt.1 hh)) h.2
/-- **the set** -/
theorem sorted_srt (ss ls : List (List UInt8)) (hn : ss.Nodup) (hm : ∀ y, y ∈ ss ↔ y ∈ ls) : (ss.mergeSort fun x y => decide (x ≤ y)) = srt ls :=
  up_unique _ _ (sorted_up ss hn) (srt_up ls) fun y => by rw [mem_srt, (List.mergeSort_perm ss _).mem_iff, hm]
/-- where a text stands or would stand -/
def fstI (s : List UInt8) : List (List UInt8) → Nat
  | [] => 0
  | x :: t => if x < s then fstI s t + 1 else 0
theorem fstI_le (s : List UInt8) : ∀ (l : List (List UInt8)), fstI s l ≤ l.length
  | [] => by simp [fstI]
  | x :: t => by unfold fstI; split <;> simp; exact fstI_le s t
theorem fstI_is (s : List UInt8) : ∀ (l : List (List UInt8)) (i : Nat), (∀ j, j < i → ∀ x, l[j]? = some x → x < s) → (∀ x, l[i]? = some x → ¬ x < s) → i ≤ l.length → fstI s l = i
  | [], i, _, _, h => by simp at h; simp [fstI, h]
  | x :: t, 0, _, h, _ => by unfold fstI; rw [if_neg (h x rfl)]
  | x :: t, i + 1, h1, h2, h3 => by
    unfold fstI
    rw [if_pos (h1 0 (by omega) x rfl), fstI_is s t i (fun j hj y hy => h1 (j + 1) (by omega) y hy) (fun y hy => h2 y hy) (by simpa using h3)]
theorem ins1_at (s : List UInt8) : ∀ (l : List (List UInt8)), ins1 s l = if l[fstI s l]? = some s then l else l.take (fstI s l) ++ (s :: l.drop (fstI s l))
  | [] => by simp [ins1, fstI]
  | x :: t => by
    unfold ins1 fstI
    by_cases h : x < s
    · rw [if_pos h, if_pos h, ins1_at s t]
      simp only [List.getElem?_cons_succ, List.take_succ_cons, List.drop_succ_cons]
      split <;> rfl
    · rw [if_neg h, if_neg h]
      simp only [List.getElem?_cons_zero, List.take_zero, List.drop_zero, List.nil_append, Option.some.injEq]
theorem ins1_len (s : List UInt8) : ∀ (l : List (List UInt8)), (ins1 s l).length ≤ l.length + 1
  | [] => by simp [ins1]
  | x :: t => by
    unfold ins1
    split
    · have := ins1_len s t; simp; omega
    · split <;> simp
theorem srt_len (ls : List (List UInt8)) : (srt ls).length ≤ ls.length := by
  have : ∀ (ls out : List (List UInt8)), (ls.foldl (fun out s => ins1 s out) out).length ≤ out.length + ls.length := by
    intro ls
    induction ls with
    | nil => simp
    | cons s t ih => intro out; have := ih (ins1 s out); have := ins1_len s out; simp at *; omega
  have := this ls []
  simpa [srt] using this
theorem srt_snoc (ls : List (List UInt8)) (k : Nat) (s : List UInt8) (h : ls[k]? = some s) : srt (ls.take (k + 1)) = ins1 s (srt (ls.take k)) := by
  have hk : k < ls.length := (List.getElem?_eq_some_iff.1 h).1
  rw [List.getElem?_eq_getElem hk] at h
  cases h
  unfold srt
  rw [List.take_succ_eq_append_getElem hk, List.foldl_append]
  rfl
end Go.Proofs.Ytbcnalabalegfaa

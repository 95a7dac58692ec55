/- A region that draws its order, walked by an invariant over what has come up. Over any program. -/
import Derived.OrdersHeld
import Derived.Deep.RegionHeld
namespace Go.Proofs.Ytlgodokgebjjaaa
open Go

variable {P : Program} {ops : Array Oper} {Q : Exit → Act → World → Prop} {md : Region.Mode}

/-- each operation waits for earlier ones alone -/
def forward (md : Region.Mode) (ops : Array Oper) : Bool := (List.range ops.size).all fun i => match ops[i]? with
  | some o => o.after.all fun e => !Region.binds md e || decide (e.on < i)
  | none => true
def unlisted (n : Nat) (listed : Array Bool) : List Nat := (List.range n).filter fun i => !listed.getD i true
theorem unlisted_lt {n : Nat} {listed : Array Bool} {i : Nat} (hi : i < n) (h : listed.getD i true = false) : (unlisted n (listed.setIfInBounds i true)).length < (unlisted n listed).length := by
  have e : unlisted n (listed.setIfInBounds i true) = (unlisted n listed).filter fun j => !(listed.setIfInBounds i true).getD j true := by
    unfold unlisted
    rw [List.filter_filter]
    refine List.filter_congr fun j _ => ?_
    by_cases hj : i = j
    · subst hj; simp [h]
    · rw [getD_set_ne true hj]; simp
  rw [e]
  refine List.length_filter_lt_length_iff_exists.2 ⟨i, ?_, ?_⟩
  · unfold unlisted; exact List.mem_filter.2 ⟨List.mem_range.2 hi, by rw [h]; rfl⟩
  · have hs : i < listed.size := by
      rcases Nat.lt_or_ge i listed.size with h' | h'
      · exact h'
      · simp [Array.getElem?_eq_none h'] at h
    simp [hs]
theorem all_listed {listed : Array Bool} (hf : forward md ops = true) (hr : Region.ready md ops listed = []) (i : Nat) (hi : i < ops.size) : listed.getD i true = true := by
  induction i using Nat.strongRecOn with
  | _ i ih =>
    cases h : listed.getD i true with
    | true => rfl
    | false =>
      have hm : i ∈ Region.ready md ops listed := by
        refine mem_ready.2 ⟨h, ops[i], Array.getElem?_eq_getElem hi, fun e he hb => ?_⟩
        have h1 := List.all_eq_true.1 hf i (List.mem_range.2 hi)
        rw [Array.getElem?_eq_getElem hi] at h1
        have h2 := Array.all_eq_true_iff_forall_mem.1 h1 e he
        rw [hb] at h2
        have h3 : e.on < i := by simpa using h2
        have h4 := ih e.on h3 (by omega)
        rcases Nat.lt_or_ge e.on listed.size with h' | h'
        · simp [h'] at h4 ⊢; exact h4
        · have : i ≥ listed.size := by omega
          simp [Array.getElem?_eq_none this] at h
      rw [hr] at hm
      cases hm
theorem wpAny_inv (hf : forward md ops = true) (Inv : Array Bool → Act → World → Prop)
    (hdone : ∀ listed a w, Inv listed a w → (∀ i, i < ops.size → listed.getD i true = true) → Q .normal a w)
    (hstep : ∀ listed a w i o, Inv listed a w → ops[i]? = some o → listed.getD i true = false → (∀ e ∈ o.after, Region.binds md e = true → listed.getD e.on false = true) → wpOp P ops Q i (fun a' w' => Inv (listed.setIfInBounds i true) a' w') a w) :
    ∀ (fuel : Nat) (listed : Array Bool) (a : Act) (w : World), Inv listed a w → (unlisted ops.size listed).length ≤ fuel → wpAny P md ops Q fuel listed a w
  | 0, listed, a, w, hI, hl => by
    have hall : ∀ i, i < ops.size → listed.getD i true = true := fun i hi => by
      cases h : listed.getD i true with
      | true => rfl
      | false =>
        have := unlisted_lt hi h
        omega
    refine ⟨?_, hdone _ _ _ hI hall⟩
    cases hr : Region.ready md ops listed with
    | nil => rfl
    | cons i t =>
      have hi : i ∈ Region.ready md ops listed := by rw [hr]; simp
      obtain ⟨h0, o, ho, _⟩ := mem_ready.1 hi
      have := hall i (Array.getElem?_eq_some_iff.1 ho).1
      rw [h0] at this
      cases this
  | fuel + 1, listed, a, w, hI, hl => by
    refine ⟨fun hr => hdone _ _ _ hI (fun i hi => all_listed hf hr i hi), fun i hi => ?_⟩
    obtain ⟨h0, o, ho, hw⟩ := mem_ready.1 hi
    have hlt := (Array.getElem?_eq_some_iff.1 ho).1
    refine wpOp_mono (fun a' w' h' => wpAny_inv hf Inv hdone hstep fuel _ a' w' h' ?_) (hstep _ _ _ i o hI ho h0 hw)
    have := unlisted_lt hlt h0
    omega
/-- **a region, by an invariant** -/
theorem wp_region_inv {id : Nat} {a : Act} {w : World} (hm : P.follows .mixedOrders = true) (hf : forward .any ops = true) (Inv : Array Bool → Act → World → Prop) (h0 : Inv (Array.replicate ops.size false) a w.drew)
    (hdone : ∀ listed a w, Inv listed a w → (∀ i, i < ops.size → listed.getD i true = true) → Q .normal a w)
    (hstep : ∀ listed a w i o, Inv listed a w → ops[i]? = some o → listed.getD i true = false → (∀ e ∈ o.after, Region.binds .any e = true → listed.getD e.on false = true) → wpOp P ops Q i (fun a' w' => Inv (listed.setIfInBounds i true) a' w') a w) :
    (Code.region id ops true).wp P Q a w :=
  wp_region_any hm (wpAny_inv hf Inv hdone hstep _ _ _ _ h0 (by unfold unlisted; exact Nat.le_trans (List.length_filter_le _ _) (by simp)))
theorem wp_gen {c : Code} {a : Act} {w : World} (h : ∀ a0 w0, a0 = a → w0 = w → c.wp P Q a0 w0) : c.wp P Q a w := h a w rfl rfl
theorem wpOp_value {K : Act → World → Prop} {i : Nat} {o : Oper} {a : Act} {w w' : World} {v : Value} (ho : ops[i]? = some o) (hg : o.guard = none) (hr : (execOp a.eval o).run P w = .ok (.value v) w') (hK : K (a.put o.dst v) w') : wpOp P ops Q i K a w := by
  unfold wpOp
  rw [ho]
  simp only [Region.wanted, hg, if_true]
  refine Or.inl ?_
  unfold Oper.wp
  rw [hr]
  exact hK
theorem wpOp_skip {K : Act → World → Prop} {i : Nat} {o : Oper} {a : Act} {w w' : World} (ho : ops[i]? = some o) (hg : o.guard = none) (hr : (execOp a.eval o).run P w = .ok .skip w') (hK : K (a.put o.dst undef) w') : wpOp P ops Q i K a w := by
  unfold wpOp
  rw [ho]
  simp only [Region.wanted, hg, if_true]
  refine Or.inl ?_
  unfold Oper.wp
  rw [hr]
  exact hK
theorem wpOp_enter {K : Act → World → Prop} {i : Nat} {o : Oper} {a : Act} {w w' : World} {f : FuncId} {args : Array Value} (ho : ops[i]? = some o) (hg : o.guard = none) (hr : (execOp a.eval o).run P w = .ok (.enter f args) w')
    (hC : Calls P f args w' fun e w'' => ∃ v, e = .returned v ∧ K (a.put o.dst v) w'') : wpOp P ops Q i K a w := by
  unfold wpOp
  rw [ho]
  simp only [Region.wanted, hg, if_true]
  refine Or.inl ?_
  unfold Oper.wp
  rw [hr]
  refine Calls.mono hC ?_
  rintro e w'' ⟨v, rfl, hK⟩
  exact hK
/-! the temporaries of a region -/
def setsA (ds : List Nat) (x : Nat → Value) (T : Array Value) : Array Value := ds.foldl (fun t d => t.setIfInBounds d (x d)) T
theorem setsA_size (x : Nat → Value) : ∀ (ds : List Nat) (T : Array Value), (setsA ds x T).size = T.size
  | [], T => rfl
  | d :: ds, T => by
    show (setsA ds x (T.setIfInBounds d (x d))).size = _
    rw [setsA_size x ds]; simp
theorem setsA_get (x : Nat → Value) : ∀ (ds : List Nat) (T : Array Value) (k : Nat), k < T.size → (setsA ds x T)[k]? = if k ∈ ds then some (x k) else T[k]?
  | [], T, k, hk => by simp [setsA]
  | d :: ds, T, k, hk => by
    show (setsA ds x (T.setIfInBounds d (x d)))[k]? = _
    rw [setsA_get x ds _ k (by simpa using hk)]
    by_cases h : k ∈ ds
    · simp [h]
    · rw [if_neg h]
      by_cases hd : d = k
      · subst hd; simp [hk]
      · rw [Array.getElem?_setIfInBounds_ne hd, if_neg (by simp [h]; exact fun e => hd e.symm)]
def mkA (a : Act) (ds : List Nat) (x : Nat → Value) : Act := { a with tmps := setsA ds x a.tmps }
def updA (x : Nat → Value) (d : Nat) (v : Value) : Nat → Value := fun t => if t = d then v else x t
theorem mkA_self (a : Act) (ds : List Nat) : mkA a ds (fun t => a.tmps.getD t undef) = a := by
  unfold mkA
  have : setsA ds (fun t => a.tmps.getD t undef) a.tmps = a.tmps := by
    apply Array.ext_getElem?
    intro k
    rcases Nat.lt_or_ge k a.tmps.size with hs | hs
    · rw [setsA_get _ _ _ _ hs]
      by_cases hd : k ∈ ds
      · rw [if_pos hd]
        show some (a.tmps.getD k undef) = _
        rw [Array.getD_eq_getD_getElem?, Array.getElem?_eq_getElem hs]; rfl
      · rw [if_neg hd]
    · rw [Array.getElem?_eq_none (by rw [setsA_size]; exact hs), Array.getElem?_eq_none hs]
  rw [this]
theorem mkA_put (a : Act) (ds : List Nat) (x : Nat → Value) (d : Nat) (v : Value) (hd : d ∈ ds) : (mkA a ds x).put (some d) v = mkA a ds (updA x d v) := by
  unfold mkA Act.put
  have : (setsA ds x a.tmps).setIfInBounds d v = setsA ds (updA x d v) a.tmps := by
    apply Array.ext
    · simp [setsA_size]
    · intro k h1 h2
      have hk : k < a.tmps.size := by simpa [setsA_size] using h2
      have e1 := setsA_get (updA x d v) ds a.tmps k hk
      have e0 := setsA_get x ds a.tmps k hk
      have e2 : ((setsA ds x a.tmps).setIfInBounds d v)[k]? = (setsA ds (updA x d v) a.tmps)[k]? := by
        rw [e1]
        by_cases h : d = k
        · subst h; simp [setsA_size, hk, hd, updA]
        · rw [Array.getElem?_setIfInBounds_ne h, e0]
          split
          · unfold updA; rw [if_neg (fun e => h e.symm)]
          · rfl
      rw [Array.getElem?_eq_getElem h1, Array.getElem?_eq_getElem h2] at e2
      exact Option.some.inj e2
  simp only [this]
theorem mkA_eval (a : Act) (ds : List Nat) (x : Nat → Value) (t : Nat) (ht : t ∈ ds) (hs : t < a.tmps.size) : (mkA a ds x).eval (.tmp t) = x t := by
  show (setsA ds x a.tmps).getD t undef = _
  rw [Array.getD_eq_getD_getElem?, setsA_get _ _ _ _ hs, if_pos ht]; rfl
theorem mkA_evalN (a : Act) (ds : List Nat) (x : Nat → Value) (t : Nat) (ht : t ∉ ds) : (mkA a ds x).eval (.tmp t) = a.eval (.tmp t) := by
  show (setsA ds x a.tmps).getD t undef = a.tmps.getD t undef
  rcases Nat.lt_or_ge t a.tmps.size with hs | hs
  · rw [Array.getD_eq_getD_getElem?, setsA_get _ _ _ _ hs, if_neg ht, Array.getD_eq_getD_getElem?]
  · rw [Array.getD_eq_getD_getElem?, Array.getD_eq_getD_getElem?, Array.getElem?_eq_none (by rw [setsA_size]; exact hs), Array.getElem?_eq_none hs]
theorem updA_same (x : Nat → Value) (d : Nat) (v : Value) : updA x d v d = v := if_pos rfl
theorem updA_other (x : Nat → Value) (d t : Nat) (v : Value) (h : t ≠ d) : updA x d v t = x t := if_neg h
end Go.Proofs.Ytlgodokgebjjaaa

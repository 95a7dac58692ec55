/- RegI inside a round of a range over a function. -/
import Derived.OrdersIn
import Derived.OwnWalkIn
import Derived.RangeFuncNested
import Derived.Test.YtlgodokgebjjaaaRegI
namespace Go.Proofs.Ytlgodokgebjjaaa
open Go

variable {P : Program} {ops : Array Oper} {Q : Exit → Act → World → Prop} {md : Region.Mode} {F : Fence} {n : Nat}

theorem wpAnyIn_inv (hf : forward md ops = true) (Inv : Array Bool → Act → World → Prop)
    (hdone : ∀ listed a w, Inv listed a w → (∀ i, i < ops.size → listed.getD i true = true) → Q .normal a w)
    (hstep : ∀ listed a w i o, Inv listed a w → ops[i]? = some o → listed.getD i true = false → (∀ e ∈ o.after, Region.binds md e = true → listed.getD e.on false = true) → wpOpIn F n P ops Q i (fun a' w' => Inv (listed.setIfInBounds i true) a' w') a w) :
    ∀ (fuel : Nat) (listed : Array Bool) (a : Act) (w : World), Inv listed a w → (unlisted ops.size listed).length ≤ fuel → wpAnyIn F n P md ops Q fuel listed a w
  | 0, listed, a, w, hI, hl => by
    have hall : ∀ i, i < ops.size → listed.getD i true = true := fun i hi => by
      cases h : listed.getD i true with
      | true => rfl
      | false =>
        have := unlisted_lt hi h
        omega
    refine ⟨?_, hdone _ _ _ hI hall⟩
    cases hr : Region.ready md ops listed with
    | nil => rfl
    | cons i t =>
      have hi : i ∈ Region.ready md ops listed := by rw [hr]; simp
      obtain ⟨h0, o, ho, _⟩ := mem_ready.1 hi
      have := hall i (Array.getElem?_eq_some_iff.1 ho).1
      rw [h0] at this
      cases this
  | fuel + 1, listed, a, w, hI, hl => by
    refine ⟨fun hr => hdone _ _ _ hI (fun i hi => all_listed hf hr i hi), fun i hi => ?_⟩
    obtain ⟨h0, o, ho, hw⟩ := mem_ready.1 hi
    have hlt := (Array.getElem?_eq_some_iff.1 ho).1
    refine wpOpIn_mono (fun a' w' h' => wpAnyIn_inv hf Inv hdone hstep fuel _ a' w' h' ?_) (hstep _ _ _ i o hI ho h0 hw)
    have := unlisted_lt hlt h0
    omega
/-- **a region, by an invariant, fenced** -/
theorem wpIn_region_inv {id : Nat} {a : Act} {w : World} (hm : P.follows .mixedOrders = true) (hf : forward .any ops = true) (Inv : Array Bool → Act → World → Prop) (h0 : Inv (Array.replicate ops.size false) a w.drew)
    (hdone : ∀ listed a w, Inv listed a w → (∀ i, i < ops.size → listed.getD i true = true) → Q .normal a w)
    (hstep : ∀ listed a w i o, Inv listed a w → ops[i]? = some o → listed.getD i true = false → (∀ e ∈ o.after, Region.binds .any e = true → listed.getD e.on false = true) → wpOpIn F n P ops Q i (fun a' w' => Inv (listed.setIfInBounds i true) a' w') a w) :
    (Code.region id ops true).wpIn F n P Q a w :=
  wpIn_region_any hm (wpAnyIn_inv hf Inv hdone hstep _ _ _ _ h0 (by unfold unlisted; exact Nat.le_trans (List.length_filter_le _ _) (by simp)))
def Closed (md : Region.Mode) (ops : Array Oper) (listed : Array Bool) : Prop := ∀ j o, ops[j]? = some o → listed.getD j false = true → ∀ e ∈ o.after, Region.binds md e = true → listed.getD e.on false = true
/-- .. what has come up is closed -/
theorem wpIn_region_invC {id : Nat} {a : Act} {w : World} (hm : P.follows .mixedOrders = true) (hf : forward .any ops = true) (Inv : Array Bool → Act → World → Prop) (h0 : Inv (Array.replicate ops.size false) a w.drew)
    (hdone : ∀ listed a w, Inv listed a w → listed.size = ops.size → (∀ i, i < ops.size → listed.getD i false = true) → Q .normal a w)
    (hstep : ∀ listed a w i o, Inv listed a w → listed.size = ops.size → Closed .any ops listed → ops[i]? = some o → listed.getD i false = false → (∀ e ∈ o.after, Region.binds .any e = true → listed.getD e.on false = true) → wpOpIn F n P ops Q i (fun a' w' => Inv (listed.setIfInBounds i true) a' w') a w) :
    (Code.region id ops true).wpIn F n P Q a w := by
  refine wpIn_region_inv hm hf (fun listed a w => listed.size = ops.size ∧ Closed .any ops listed ∧ Inv listed a w) ⟨by simp, fun j o hj h => ?_, h0⟩ (fun listed a w h hall => hdone listed a w h.2.2 h.1 (fun i hi => ?_)) (fun listed a w i o h ho hl hw => ?_)
  · rw [Array.getD_eq_getD_getElem?, Array.getElem?_replicate] at h
    split at h <;> cases h
  · have := hall i hi
    rw [Array.getD_eq_getD_getElem?, Array.getElem?_eq_getElem (by rw [h.1]; exact hi)] at this ⊢
    exact this
  · have hi : i < listed.size := by rw [h.1]; exact (Array.getElem?_eq_some_iff.1 ho).1
    have hl' : listed.getD i false = false := by
      rw [Array.getD_eq_getD_getElem?, Array.getElem?_eq_getElem hi] at hl ⊢
      exact hl
    refine wpOpIn_mono (fun a' w' h' => ⟨by rw [Array.size_setIfInBounds]; exact h.1, fun j oj hj hlj e he hb => ?_, h'⟩) (hstep listed a w i o h.2.2 h.1 h.2.1 ho hl' hw)
    by_cases hij : i = j
    · subst hij
      rw [ho] at hj
      cases hj
      exact getD_set_true (hw e he hb)
    · rw [getD_set_ne false hij] at hlj
      exact getD_set_true (h.2.1 j oj hj hlj e he hb)
theorem wpIn_gen {c : Code} {a : Act} {w : World} (h : ∀ a0 w0, a0 = a → w0 = w → c.wpIn F n P Q a0 w0) : c.wpIn F n P Q a w := h a w rfl rfl
theorem wpOpIn_value {K : Act → World → Prop} {i l : Nat} {o : Oper} {a : Act} {w w' : World} {v : Value} (ho : ops[i]? = some o) (hg : o.guard = none) (hd : ∀ c, o.op ≠ .defer c) (hr : (execOp a.eval o).run P w = .ok (.value v) w') (hK : K (a.put o.dst v) w') : wpOpIn (Fence.wide.inRound l) n P ops Q i K a w := by
  unfold wpOpIn
  rw [ho]
  simp only [Region.wanted, hg, if_true]
  unfold Oper.wpIn
  refine ⟨fun _ _ => trivial, ?_⟩
  rw [Oper.semAt_plain _ _ _ hd, hr]
  exact hK
theorem wpOpIn_skip {K : Act → World → Prop} {i l : Nat} {o : Oper} {a : Act} {w w' : World} (ho : ops[i]? = some o) (hg : o.guard = none) (hd : ∀ c, o.op ≠ .defer c) (hr : (execOp a.eval o).run P w = .ok .skip w') (hK : K (a.put o.dst undef) w') : wpOpIn (Fence.wide.inRound l) n P ops Q i K a w := by
  unfold wpOpIn
  rw [ho]
  simp only [Region.wanted, hg, if_true]
  unfold Oper.wpIn
  refine ⟨fun _ _ => trivial, ?_⟩
  rw [Oper.semAt_plain _ _ _ hd, hr]
  exact hK
theorem wpOpIn_enter {K : Act → World → Prop} {i l : Nat} {o : Oper} {a : Act} {w w' : World} {f : FuncId} {args : Array Value} (ho : ops[i]? = some o) (hg : o.guard = none) (hd : ∀ c, o.op ≠ .defer c) (hr : (execOp a.eval o).run P w = .ok (.enter f args) w')
    (hC : Calls P f args w' fun e w'' => ∃ v, e = .returned v ∧ K (a.put o.dst v) w'') : wpOpIn (Fence.wide.inRound l) n P ops Q i K a w := by
  unfold wpOpIn
  rw [ho]
  simp only [Region.wanted, hg, if_true]
  unfold Oper.wpIn
  refine ⟨fun _ _ => trivial, ?_⟩
  rw [Oper.semAt_plain _ _ _ hd, hr]
  refine ⟨fun h => by simp [Fence.wide] at h, ?_⟩
  refine (callsIn_wide.2 ?_)
  refine Calls.mono hC ?_
  rintro e w'' ⟨v, rfl, hK⟩
  exact hK
end Go.Proofs.Ytlgodokgebjjaaa

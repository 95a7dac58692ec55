/- Slices of holds of the call's own; append of holds; Clone. -/
import Derived.RangeFuncNested
import Derived.RangeFuncBound
import Derived.RangeFuncCalls
import Derived.RangeFuncLeaves
import Derived.Shelf.Abstract
import Derived.Shelf.RegionOpen
import Derived.WalkKit
import Derived.OwnWalkIn
import Derived.TacticsInMore
import Derived.LoopNIn
import Derived.LoopIn
import Derived.Outline
import Derived.Lib.Hide
import Derived.Lib.SliceRun
import Derived.IntWalk
import Derived.WalkLawsBesides
import Derived.WalkSpells
import Derived.Laws.BitsAllLaws
import Derived.Lib.ConvBytes
import Derived.Maps.AppendAt
import Derived.Lib.AppendStr
import Derived.Lib.SlBytesConst
import Derived.Laws.AppendOwnNone
import Derived.Laws.OwnMore
import Derived.Laws.BytesArg
import Derived.Deep.RegionHeld3
import Derived.BigQuiet
import Derived.Deep.RegionLaw
import Derived.Deep.QuietTactic
import Derived.Lib.OthersKept
import Derived.Test.YtofdfcngmkkfdaaProg
import Derived.Deep.DeepFit
import Derived.Test.YtofdfcngmkkfdaaHoE
set_option linter.unusedVariables false
set_option linter.unusedSimpArgs false
namespace Go.Proofs.Ytofdfcngmkkfdaa
open Go Go.RowKit Go.Shelf

/-- pairs as cells -/
def flat : List (Value × Value) → List Value
  | [] => []
  | x :: l => x.1 :: x.2 :: flat l
theorem flat_len : ∀ l : List (Value × Value), (flat l).length = l.length * 2
  | [] => rfl
  | x :: l => by simp [flat, flat_len l]; omega
theorem flat_append : ∀ a b : List (Value × Value), flat (a ++ b) = flat a ++ flat b
  | [], b => rfl
  | x :: a, b => by simp [flat, flat_append a b]
theorem flat_get : ∀ (l : List (Value × Value)) (i : Nat) (x : Value × Value), l[i]? = some x → (flat l)[i * 2]? = some x.1 ∧ (flat l)[i * 2 + 1]? = some x.2
  | [], i, x, h => by simp at h
  | y :: l, 0, x, h => by simp at h; subst h; exact ⟨rfl, rfl⟩
  | y :: l, i + 1, x, h => by
    have := flat_get l i x (by simpa using h)
    rw [show (i + 1) * 2 = i * 2 + 1 + 1 by omega]
    exact this
/-- A SLICE OF HOLDS OF THE CALL's OWN -/
def OP (W : World) (base : Nat) (v : Value) (hs : List Ru) : Prop := W.ownsRow base 47 2 v hs.length (flat (ruV hs))
theorem infoH : (Try.prog.info? 47).map (fun i => (i.zero, i.size, i.bytes)) = some (some (.agg #[.string ⟨#[]⟩, .string ⟨#[]⟩]), 2, 32) := by kernel_rfl
theorem flat_one (hs : List Ru) : ∀ u ∈ flat (ruV hs), u.oneCell' = true := by
  induction hs with
  | nil => intro u hu; cases hu
  | cons x xs ih =>
    intro u hu
    simp only [ruV, List.map_cons, flat, List.mem_cons] at hu
    rcases hu with rfl | rfl | hu
    · rfl
    · rfl
    · exact ih u hu
theorem OP.nil (W : World) (base : Nat) : OP W base (.slice none 0 0) [] := World.ownsRow_nil _ _ _ _
theorem OP.reads {W : World} {base : Nat} {v : Value} {hs : List Ru} (h : OP W base v hs) : PV W v (ruV hs) := by
  obtain ⟨hl, h⟩ := h
  rcases h with ⟨rfl, h0⟩ | ⟨g, cap, cur, rfl, hb, hg, hc, hm, hs', ht⟩
  · obtain rfl : hs = [] := List.length_eq_zero_iff.1 h0
    exact PV.nil W
  · refine ⟨_, cap, by rw [ruV_len], by rw [ruV_len]; unfold maxLen at hm; omega, fun i x hx => ⟨g, 0, rfl, ?_, ?_⟩⟩
    · obtain ⟨e, -⟩ := flat_get _ i x hx
      have hi : i < hs.length := by have := (List.getElem?_eq_some_iff.1 hx).1; rwa [ruV_len] at this
      rw [← ht, List.getElem?_take_of_lt (by omega)] at e
      simp only [World.cell?, hg, Nat.zero_add]
      simpa using e
    · obtain ⟨-, e⟩ := flat_get _ i x hx
      have hi : i < hs.length := by have := (List.getElem?_eq_some_iff.1 hx).1; rwa [ruV_len] at this
      rw [← ht, List.getElem?_take_of_lt (by omega)] at e
      simp only [World.cell?, hg, Nat.zero_add]
      simpa using e
theorem PV.lie {W : World} {ad : Addr} {n c : Nat} {hs : List Ru} (h : PV W (.slice (some ad) n c) (ruV hs)) : ∀ j u, (flat (ruV hs))[j]? = some u → W.cell? (ad.add j) = some u := by
  intro j u hj
  have hlt : j < hs.length * 2 := by
    have := (List.getElem?_eq_some_iff.1 hj).1
    rwa [flat_len, ruV_len] at this
  have hg := ruV_get hs (j / 2) (by omega)
  obtain ⟨g, o, e, a0, a1⟩ := h.at_ (j / 2) _ hg
  cases e
  obtain ⟨b0, b1⟩ := flat_get _ (j / 2) _ hg
  have ha : (⟨g, o, none⟩ : Addr).add j = ⟨g, o + j, none⟩ := by unfold Addr.add; split <;> simp_all
  rw [ha]
  have hc : j = j / 2 * 2 ∨ j = j / 2 * 2 + 1 := by omega
  rcases hc with e | e
  · rw [← e] at b0 a0
    rw [b0] at hj
    rw [a0]; exact hj
  · rw [← e] at b1
    rw [Nat.add_assoc, ← e] at a1
    rw [b1] at hj
    rw [a1]; exact hj
/-- append(own, holds...) -/
theorem runP_append {w : World} (ty : TypeId) (base : Nat) (v xv : Value) (l m : List Ru) (hown : OP w base v l) (hm : PV w xv (ruV m)) (hlen : l.length + m.length ≤ 1000000) (hbase : base ≤ w.heap.size) :
    ∃ v' w', (Builtin.append_ #[45, 45] ty #[v, xv]).run Try.prog w = .ok v' w' ∧ OP w' base v' (l ++ m) ∧ w.grownBy w' v.ownBlock ∧ Below base w w' := by
  obtain ⟨i0, hi, hz0, hz1, hz2⟩ := info_parts infoH
  have hm0 := hm
  obtain ⟨A, c, rfl, h1, h2⟩ := hm
  cases A with
  | none =>
    obtain rfl : m = [] := by
      cases m with
      | nil => rfl
      | cons x xs =>
        obtain ⟨g, o, e, -⟩ := h2 0 _ (ruV_get (x :: xs) 0 (by simp))
        cases e
    by_cases hc : c = 0
    · subst hc
      exact ⟨v, w, run_append_owned_none (P := Try.prog) (w := w) base 45 ty 47 i0 2 Try.underlying45 hi v l.length (flat (ruV l)) hown, by simpa using hown, ⟨rfl, rfl, rfl, Nat.le_refl _, fun _ _ _ => rfl⟩, Below.refl _ _⟩
    · exact ⟨v, w, run_append_owned_none (P := Try.prog) (w := w) base 45 ty 47 i0 2 Try.underlying45 hi v l.length (flat (ruV l)) hown, by simpa using hown, ⟨rfl, rfl, rfl, Nat.le_refl _, fun _ _ _ => rfl⟩, Below.refl _ _⟩
  | some ad =>
    rw [ruV_len] at hm0 ⊢
    obtain ⟨v', w', hr, hown', hgrow, _⟩ := run_append_own (P := Try.prog) w base 45 ty 47 i0 _ 2 32 Try.underlying45 hi hz0 hz1 hz2 rfl (by decide) v l.length (flat (ruV l)) hown ad m.length c (flat (ruV m)) (by rw [flat_len, ruV_len]) hm0.lie (flat_one m) (by unfold maxLen; omega) (by omega) hbase
    refine ⟨v', w', hr, ?_, hgrow, (Below.refl base w).grown hgrow hbase (fun k hk => (hown.lt k hk).1)⟩
    unfold OP
    rw [show ruV (l ++ m) = ruV l ++ ruV m by simp [ruV], flat_append, List.length_append]
    exact hown'
theorem wpP_append {w : World} {ops : Array Oper} {rest : List Oper} {o : Oper} {a : Act} {Q : Exit → Act → World → Prop} (hgd : o.guard = none) (s x : Operand)
    (ho : o.op = .call { callee := .builtin .append, args := #[s, x], argTypes := #[45, 45] })
    (base : Nat) (v xv : Value) (l m : List Ru) (hs : a.eval s = v) (hown : OP w base v l) (hx : a.eval x = xv) (hm : PV w xv (ruV m)) (hlen : l.length + m.length ≤ 1000000) (hbase : base ≤ w.heap.size)
    (h : ∀ v' w', OP w' base v' (l ++ m) → w.grownBy w' v.ownBlock → Below base w w' → wpList Try.prog ops Q rest (a.put o.dst v') w') : wpList Try.prog ops Q (o :: rest) a w := by
  refine wpList_plain hgd fun K hK => ?_
  obtain ⟨v', w', hrun, h1, h2, h3⟩ := runP_append o.type base v xv l m hown hm hlen hbase
  unfold Oper.wp
  simp [execOp, ho, resolve, invoke, builtin, hs, hx, hrun, Result.andThen]
  exact hK _ _ (h v' w' h1 h2 h3)
theorem stepP_append {w : World} {ops : Array Oper} {o : Oper} {a : Act} {K : Act → World → Prop} {Q : Exit → Act → World → Prop} {E : Prop} (hgd : o.guard = none) (s x : Operand)
    (ho : o.op = .call { callee := .builtin .append, args := #[s, x], argTypes := #[45, 45] })
    (base : Nat) (v xv : Value) (l m : List Ru) (hs : a.eval s = v) (hown : OP w base v l) (hx : a.eval x = xv) (hm : PV w xv (ruV m)) (hlen : l.length + m.length ≤ 1000000) (hbase : base ≤ w.heap.size)
    (h : ∀ v' w', OP w' base v' (l ++ m) → w.grownBy w' v.ownBlock → Below base w w' → K (a.put o.dst v') w') : if Region.wanted o (yielded ops a.tmps) = true then Oper.wp Try.prog o a w K Q else E := by
  have hw : Region.wanted o (yielded ops a.tmps) = true := by simp [Region.wanted, hgd]
  rw [if_pos hw]
  obtain ⟨v', w', hrun, h1, h2, h3⟩ := runP_append o.type base v xv l m hown hm hlen hbase
  unfold Oper.wp
  simp [execOp, ho, resolve, invoke, builtin, hs, hx, hrun, Result.andThen]
  exact h v' w' h1 h2 h3
theorem OP.fresh (w : World) : OP (w.alloc (.cells #[] 47)) w.heap.size (.slice (some ⟨w.heap.size, 0, none⟩) 0 0) [] :=
  ⟨rfl, .inr ⟨w.heap.size, 0, #[], rfl, Nat.le_refl _, by rw [heap_alloc_new], by simp, by simp, by simp, rfl⟩⟩
set_option maxRecDepth 100000 in
/-- **slices.Clone** -/
theorem hclone_any (v : Value) (hs : List Ru) (w : World) (hmax : hs.length ≤ 1000) (hv : PV w v (ruV hs)) :
    Calls Try.prog 69 #[v] w fun e w' => ∃ u, e = .returned u ∧ OP w' w.heap.size u hs ∧ Below w.heap.size w w' := by
  have h' := Lib.hid hv
  have hnil := fun (A : Option Addr) (n c : Nat) (w : World) => Lib.run_eql_slice_nil (P := Try.prog) w 45 47 A n c 0 0 Try.underlying45
  obtain ⟨A, c, rfl, h1, h2⟩ := hv
  cases A with
  | none =>
    obtain rfl : hs = [] := by
      cases hs with
      | nil => rfl
      | cons x xs =>
        obtain ⟨g, o, e, -⟩ := h2 0 _ (ruV_get (x :: xs) 0 (by simp))
        cases e
    clear h2
    go_enter Try.func69, Try.ntmps69
    go_wp2
    go_ret
    exact ⟨_, rfl, OP.nil _ _, Below.refl _ _⟩
  | some ad =>
    clear h2
    go_enter Try.func69, Try.ntmps69
    have hB := (Below.refl w.heap.size w).alloc (Nat.le_refl _) (.cells #[] 47)
    have hO := OP.fresh w
    go_wp2_with (at_builtin; refine wpP_append rfl _ _ rfl w.heap.size _ _ [] hs rfl hO rfl (h'.out.below hB) (by simp; omega) hB.size ?_)
    intro v1 w1 hown1 _ hB1
    go_wp2
    go_ret
    exact ⟨_, rfl, by simpa using hown1, hB.trans hB1⟩
end Go.Proofs.Ytofdfcngmkkfdaa

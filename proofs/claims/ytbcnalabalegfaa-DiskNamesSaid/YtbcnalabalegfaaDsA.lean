/- append to a row of bytes: where the new row lies. -/
import Derived.RangeFuncNested
import Derived.RangeFuncBound
import Derived.RangeFuncCalls
import Derived.RangeFuncLeaves
import Derived.Shelf.Abstract
import Derived.Shelf.RegionOpen
import Derived.WalkKit
import Derived.OwnWalkIn
import Derived.TacticsInMore
import Derived.LoopNIn
import Derived.LoopIn
import Derived.Outline
import Derived.Lib.Hide
import Derived.Lib.SliceRun
import Derived.IntWalk
import Derived.WalkLawsBesides
import Derived.WalkSpells
import Derived.Laws.BitsAllLaws
import Derived.Lib.ConvBytes
import Derived.Maps.AppendAt
import Derived.Lib.AppendStr
import Derived.Lib.SlBytesConst
import Derived.Laws.AppendOwnNone
import Derived.Laws.OwnMore
import Derived.Laws.BytesArg
import Derived.Deep.RegionHeld3
import Derived.BigQuiet
import Derived.Deep.RegionLaw
import Derived.Deep.QuietTactic
import Derived.Lib.OthersKept
import Derived.Test.YtbcnalabalegfaaProg
import Derived.Deep.DeepFit

import Derived.Test.YtbcnalabalegfaaSgMem
set_option linter.unusedVariables false
set_option linter.unusedSimpArgs false
namespace Go.Proofs.Ytbcnalabalegfaa
open Go Go.RowKit Go.Shelf
open Go.Proofs (encStr)

theorem runB_zero (w : World) (ty : TypeId) (A : Option Addr) (n c : Nat) (B : Option Addr) (d : Nat) (h : n ≤ c) (hm : c ≤ 9223372036854775807) :
    (Builtin.append_ #[28, 28] ty #[.slice A n c, .slice B 0 d]).run Try.prog w = .ok (.slice A n c) w := by
  obtain ⟨i0, hi, hz0, hz1, hz2⟩ := info_parts info5
  have hs : (sizeOf 5).run Try.prog w = .ok 1 w := size5 w
  cases A <;> cases B <;> simp [Builtin.append_, run_underlying Try.underlying28, hs, Result.andThen, Builtin.lenOf, Builtin.firstCells, h, storeCells, loadCells, loadCellsFrom, Sem.run_pure]
theorem runB_lies {w : World} (ty : TypeId) (base : Nat) (v xv : Value) (l m : List UInt8) (hown : OB w base v l) (hm : SB w xv m) (hlen : l.length + m.length ≤ 140737488355328) (hbase : base ≤ w.heap.size) :
    ∃ v' w', (Builtin.append_ #[28, 28] ty #[v, xv]).run Try.prog w = .ok v' w' ∧ OB w' base v' (l ++ m) ∧ w.grownBy w' v.ownBlock ∧ (∀ r, v'.ownBlock = some r → v.ownBlock = some r ∨ r = w.heap.size) := by
  obtain ⟨i0, hi, hz0, hz1, hz2⟩ := info_parts info5
  obtain ⟨A, c, rfl, h1, h2, h3⟩ := hm.form
  by_cases h0 : 0 < m.length
  · obtain ⟨g, o, rfl, hc⟩ := h3 h0
    obtain ⟨g', cap, w', hrun, r1, r2, r3, _⟩ := run_append_lies (P := Try.prog) w 28 ty base 5 i0 (.int .u8 0) 1 1 Try.underlying28 hi hz0 hz1 hz2 rfl (by decide) v l.length (enc8 l) hown ⟨g, o, none⟩ m.length c (enc8 m) (by simp [enc8]) (by
      intro j u hj
      have hj' : j < m.length := by have := (List.getElem?_eq_some_iff.1 hj).1; simpa [enc8] using this
      rw [enc8_get m j hj'] at hj
      cases hj
      rw [add_pl]
      exact hc j hj') (enc8_one m) h0 (by unfold maxLen; omega) (by omega) hbase w.heap.size rfl
    refine ⟨_, w', hrun, ?_, r2, fun r hr => ?_⟩
    · unfold OB
      rw [enc8_append, List.length_append]
      exact r1
    · have : g' = r := by simpa [Value.ownBlock] using hr
      subst this
      exact r3
  · have hm0 : m = [] := List.length_eq_zero_iff.1 (by omega)
    subst hm0
    obtain ⟨A', n', c', hv, hn', hc'⟩ : ∃ A' n' c', v = .slice A' n' c' ∧ n' ≤ c' ∧ c' ≤ 9223372036854775807 := by
      obtain ⟨A', c', e, q1, q2, -⟩ := hown.reads.form
      exact ⟨A', _, c', e, q1, q2⟩
    subst hv
    exact ⟨_, w, runB_zero w ty A' n' c' A c hn' hc', by simpa using hown, ⟨rfl, rfl, rfl, Nat.le_refl _, fun _ _ _ => rfl⟩, fun r hr => .inl hr⟩
theorem wpB_lies {w : World} {ops : Array Oper} {rest : List Oper} {o : Oper} {a : Act} {Q : Exit → Act → World → Prop} (hgd : o.guard = none) (s x : Operand)
    (ho : o.op = .call { callee := .builtin .append, args := #[s, x], argTypes := #[28, 28] })
    (base : Nat) (v xv : Value) (l m : List UInt8) (hs : a.eval s = v) (hown : OB w base v l) (hx : a.eval x = xv) (hm : SB w xv m) (hlen : l.length + m.length ≤ 140737488355328) (hbase : base ≤ w.heap.size)
    (h : ∀ v' w', OB w' base v' (l ++ m) → w.grownBy w' v.ownBlock → (∀ r, v'.ownBlock = some r → v.ownBlock = some r ∨ r = w.heap.size) → wpList Try.prog ops Q rest (a.put o.dst v') w') : wpList Try.prog ops Q (o :: rest) a w := by
  refine wpList_plain hgd fun K hK => ?_
  obtain ⟨v', w', hrun, h1, h2, h3⟩ := runB_lies o.type base v xv l m hown hm hlen hbase
  unfold Oper.wp
  simp [execOp, ho, resolve, invoke, builtin, hs, hx, hrun, Result.andThen]
  exact hK _ _ (h v' w' h1 h2 h3)
/-- a row of one's own stays where its block does -/
theorem ownsRow_blk {W W' : World} {base : Nat} {e : TypeId} {size : Nat} {v : Value} {k : Nat} {xs : List Value} (h : W.ownsRow base e size v k xs) (hr : ∀ r, v.ownBlock = some r → W'.heap[r]? = W.heap[r]?) : W'.ownsRow base e size v k xs := by
  obtain ⟨hl, h⟩ := h
  refine ⟨hl, ?_⟩
  rcases h with h | ⟨g, cap, cur, rfl, hb, hg, r⟩
  · exact .inl h
  · exact .inr ⟨g, cap, cur, rfl, hb, (hr g rfl).trans hg, r⟩
/-- what a row's block is -/
theorem ownsRow_obj {W : World} {base : Nat} {e : TypeId} {size : Nat} {v : Value} {k : Nat} {xs : List Value} (h : W.ownsRow base e size v k xs) {r : Nat} (hr : v.ownBlock = some r) : ∃ cur, W.heap[r]? = some (.cells cur e (0, 0)) := by
  obtain ⟨hl, h⟩ := h
  rcases h with ⟨rfl, _⟩ | ⟨g, cap, cur, rfl, hb, hg, _⟩
  · simp [Value.ownBlock] at hr
  · obtain rfl : g = r := by simpa [Value.ownBlock] using hr
    exact ⟨cur, hg⟩
set_option maxRecDepth 100000 in
set_option maxHeartbeats 400000 in
/-- **slices.Clone** -/
theorem sclone_any (v : Value) (l : List UInt8) (w : World) (hlen : l.length ≤ 100000000) (h : SB w v l) :
    Calls Try.prog 20 #[v] w fun e w' => ∃ v', e = .returned v' ∧ OB w' w.heap.size v' l ∧ Below w.heap.size w w' := by
  have h' := Lib.hid h
  have hnil := fun (A : Option Addr) (n c : Nat) (w : World) => Lib.run_eql_slice_nil (P := Try.prog) w 28 5 A n c 0 0 Try.underlying28
  rcases h with ⟨rfl, rfl⟩ | ⟨ad, c, rfl, h1, h2, h3⟩
  · go_enter Try.func20, Try.ntmps20
    go_wp2
    go_ret
    exact ⟨_, rfl, World.ownsRow_nil _ _ _ _, Below.refl _ _⟩
  · clear h3
    go_enter Try.func20, Try.ntmps20
    have hB := (Below.refl w.heap.size w).alloc (Nat.le_refl _) (.cells #[] 5)
    have hO : OB (w.alloc (.cells #[] 5)) w.heap.size (.slice (some ⟨w.heap.size, 0, none⟩) 0 0) [] := OB_lit w #[] [] (by simp) rfl
    go_wp2_with (at_builtin; refine wpB_append rfl _ _ rfl w.heap.size _ _ [] l rfl hO rfl (h'.out.below hB) (by simp; omega) hB.size ?_)
    intro v1 w1 hown1 _ hB1
    go_wp2
    go_ret
    exact ⟨_, rfl, by simpa using hown1, hB.trans hB1⟩
end Go.Proofs.Ytbcnalabalegfaa

/- slices of texts -/
import Derived.RangeFuncNested
import Derived.RangeFuncBound
import Derived.RangeFuncCalls
import Derived.RangeFuncLeaves
import Derived.Shelf.Abstract
import Derived.Shelf.RegionOpen
import Derived.WalkKit
import Derived.OwnWalkIn
import Derived.TacticsInMore
import Derived.LoopNIn
import Derived.LoopIn
import Derived.Outline
import Derived.Lib.Hide
import Derived.Lib.SliceRun
import Derived.IntWalk
import Derived.WalkLawsBesides
import Derived.WalkSpells
import Derived.Laws.BitsAllLaws
import Derived.Lib.ConvBytes
import Derived.Maps.AppendAt
import Derived.Lib.AppendStr
import Derived.Lib.SlBytesConst
import Derived.Laws.AppendOwnNone
import Derived.Laws.OwnMore
import Derived.Laws.BytesArg
import Derived.Deep.RegionHeld3
import Derived.BigQuiet
import Derived.Deep.RegionLaw
import Derived.Deep.QuietTactic
import Derived.Lib.OthersKept
import Derived.Test.YtlgodokgebjjaaaProg
import Derived.Deep.DeepFit
import Derived.Sort.EncStr
import Derived.Test.YtlgodokgebjjaaaDoD
set_option linter.unusedVariables false
set_option linter.unusedSimpArgs false
namespace Go.Proofs.Ytlgodokgebjjaaa
open Go Go.RowKit Go.Shelf
open Go.Proofs (encStr)

/-- texts of the call's own -/
def OT (W : World) (base : Nat) (v : Value) (ss : List (List UInt8)) : Prop := W.ownsRow base 9 1 v ss.length (ss.map encStr)
/-- a slice of texts -/
def TS (W : World) (v : Value) (ss : List (List UInt8)) : Prop := ∃ A c, v = .slice A ss.length c ∧ (ss.length ≤ c ∧ c ≤ 9223372036854775807) ∧ ∀ i (h : i < ss.length), ∃ g o, A = some ⟨g, o, none⟩ ∧ W.cell? ⟨g, o + i, none⟩ = some (encStr ss[i])
theorem TS.below {W W' : World} {v : Value} {l : List (List UInt8)} (h : TS W v l) (hb : Below W.heap.size W W') : TS W' v l := by
  obtain ⟨A, c, rfl, h1, h2⟩ := h
  refine ⟨A, c, rfl, h1, fun i hi => ?_⟩
  obtain ⟨g, o, e, hc⟩ := h2 i hi
  exact ⟨g, o, e, (hb.cell (p := ⟨g, o + i, none⟩) (World.block_lt_of_cell? W _ hc)).trans hc⟩
theorem infoStr : (Try.prog.info? 9).map (fun i => (i.zero, i.size, i.bytes)) = some (some (.string ⟨#[]⟩), 1, 16) := by kernel_rfl
theorem OT.nil (W : World) (base : Nat) : OT W base (.slice none 0 0) [] := World.ownsRow_nil _ _ _ _
theorem OT.mono {W : World} {B B' : Nat} {v : Value} {l : List (List UInt8)} (h : OT W B v l) (hb : B' ≤ B) : OT W B' v l := by
  obtain ⟨h1, h2⟩ := h
  refine ⟨h1, ?_⟩
  rcases h2 with h | ⟨g, cap, cur, e, hg, r⟩
  · exact .inl h
  · exact .inr ⟨g, cap, cur, e, by omega, r⟩
theorem OT.below {W W' : World} {B : Nat} {v : Value} {l : List (List UInt8)} (h : OT W B v l) (hb : Below W.heap.size W W') : OT W' B v l :=
  h.kept (row := none) ⟨hb.os, hb.tape, hb.output, hb.size, fun k hk _ => hb.block k hk⟩ (by cases v.ownBlock <;> simp)
theorem OT.alloc {W : World} {B : Nat} {v : Value} {l : List (List UInt8)} (h : OT W B v l) (o : Obj) : OT (W.alloc o) B v l := h.below ((Below.refl W.heap.size W).alloc (Nat.le_refl _) o)
theorem OT.reads {W : World} {base : Nat} {v : Value} {ss : List (List UInt8)} (h : OT W base v ss) : TS W v ss := by
  obtain ⟨hl, h⟩ := h
  rcases h with ⟨rfl, h0⟩ | ⟨g, cap, cur, rfl, hb, hg, hc, hm, hs', ht⟩
  · obtain rfl : ss = [] := List.length_eq_zero_iff.1 h0
    exact ⟨none, 0, rfl, by simp, fun i h => by simp at h⟩
  · refine ⟨_, cap, rfl, by unfold maxLen at hm; omega, fun i hi => ⟨g, 0, rfl, ?_⟩⟩
    have e : (cur.toList.take (ss.length * 1))[i]? = (ss.map encStr)[i]? := by rw [ht]
    rw [List.getElem?_take_of_lt (by omega)] at e
    simp only [World.cell?, hg, Nat.zero_add]
    rw [List.getElem?_map, List.getElem?_eq_getElem hi] at e
    simpa using e
theorem encStr_one (m : List (List UInt8)) : ∀ u ∈ m.map encStr, u.oneCell' = true := by
  intro u hu
  obtain ⟨x, _, rfl⟩ := List.mem_map.1 hu
  rfl
theorem TS.news {W : World} {A : Option Addr} {k c : Nat} {m : List (List UInt8)} (h : TS W (.slice A k c) m) (h0 : 0 < m.length) : k = m.length ∧ ∃ ad, A = some ad ∧ ∀ j u, (m.map encStr)[j]? = some u → W.cell? (ad.add j) = some u := by
  obtain ⟨A', c', e, h1, h2⟩ := h
  cases e
  obtain ⟨g, o, rfl, -⟩ := h2 0 h0
  refine ⟨rfl, _, rfl, fun j u hj => ?_⟩
  have hj' : j < m.length := by have := (List.getElem?_eq_some_iff.1 hj).1; simpa using this
  obtain ⟨g', o', e, hc⟩ := h2 j hj'
  cases e
  rw [List.getElem?_map, List.getElem?_eq_getElem hj'] at hj
  cases hj
  rw [Lib.add_plain']
  exact hc
theorem runT_append {w : World} (ty : TypeId) (base : Nat) (v xv : Value) (ss m : List (List UInt8)) (hown : OT w base v ss) (hm : TS w xv m) (h0 : 0 < m.length) (hlen : ss.length + m.length ≤ 1000000) (hbase : base ≤ w.heap.size) :
    ∃ v' w', (Builtin.append_ #[47, 47] ty #[v, xv]).run Try.prog w = .ok v' w' ∧ OT w' base v' (ss ++ m) ∧ w.grownBy w' v.ownBlock ∧ Below base w w' := by
  obtain ⟨i0, hi, hz0, hz1, hz2⟩ := info_parts infoStr
  obtain ⟨A, c, rfl, -, -⟩ := id hm
  obtain ⟨-, ad, rfl, hc⟩ := hm.news h0
  obtain ⟨v', w', hr, hown', hgrow, _⟩ := run_append_own (P := Try.prog) w base 47 ty 9 i0 _ 1 16 Try.underlying47 hi hz0 hz1 hz2 rfl (by decide) v ss.length _ hown ad m.length c (m.map encStr) (by simp) hc (encStr_one m) (by unfold maxLen; omega) (by omega) hbase
  refine ⟨v', w', hr, ?_, hgrow, (Below.refl base w).grown hgrow hbase (fun k hk => (hown.lt k hk).1)⟩
  unfold OT
  rw [List.map_append, List.length_append]
  exact hown'
theorem wpT_append {w : World} {ops : Array Oper} {rest : List Oper} {o : Oper} {a : Act} {Q : Exit → Act → World → Prop} (hgd : o.guard = none) (s x : Operand)
    (ho : o.op = .call { callee := .builtin .append, args := #[s, x], argTypes := #[47, 47] })
    (base : Nat) (v xv : Value) (ss m : List (List UInt8)) (hs : a.eval s = v) (hown : OT w base v ss) (hx : a.eval x = xv) (hm : TS w xv m) (h0 : 0 < m.length) (hlen : ss.length + m.length ≤ 1000000) (hbase : base ≤ w.heap.size)
    (h : ∀ v' w', OT w' base v' (ss ++ m) → w.grownBy w' v.ownBlock → Below base w w' → wpList Try.prog ops Q rest (a.put o.dst v') w') : wpList Try.prog ops Q (o :: rest) a w := by
  refine wpList_plain hgd fun K hK => ?_
  obtain ⟨v', w', hrun, h1, h2, h3⟩ := runT_append o.type base v xv ss m hown hm h0 hlen hbase
  unfold Oper.wp
  simp [execOp, ho, resolve, invoke, builtin, hs, hx, hrun, Result.andThen]
  exact hK _ _ (h v' w' h1 h2 h3)
/-- append(own, texts...) inside a fence -/
theorem wpTI_append {F : Fence} {n : Nat} {w : World} {ops : Array Oper} {rest : List Oper} {o : Oper} {a : Act} {Q : Exit → Act → World → Prop}
    (hg : o.guard = none) (s x : Operand) (hop : o.op = Op.call { callee := Callee.builtin Builtin.append, args := #[s, x], argTypes := #[47, 47] })
    (base : Nat) (v xv : Value) (l m : List (List UInt8)) (hs : a.eval s = v) (hown : OT w base v l) (hx : a.eval x = xv) (hm : TS w xv m) (h0 : 0 < m.length) (hlen : l.length + m.length ≤ 1000000) (hbase : base ≤ w.heap.size)
    (hK : ∀ v' w', OT w' base v' (l ++ m) → w.grownBy w' v.ownBlock → (∀ r, v'.ownBlock = some r → v.ownBlock = some r ∨ r = w.heap.size) → wpListIn F n Try.prog ops Q rest (a.put o.dst v') w') :
    wpListIn F n Try.prog ops Q (o :: rest) a w := by
  obtain ⟨i0, hi, hz0, hz1, hz2⟩ := info_parts infoStr
  obtain ⟨A, c, rfl, -, -⟩ := id hm
  obtain ⟨-, ad, rfl, hc⟩ := hm.news h0
  refine wpListIn_append_lies w hg s x 47 hop base 9 i0 (.string ⟨#[]⟩) 1 16 Try.underlying47 hi hz0 hz1 hz2 rfl (by decide) v l.length (l.map encStr) hs hown ad m.length c (m.map encStr) hx (by simp) hc (encStr_one m) h0 (by unfold maxLen; omega) (by omega) hbase ?_
  intro g' cap w' r1 r2 r3
  refine hK _ _ ?_ r2 (fun r hr => ?_)
  · unfold OT
    rw [List.map_append, List.length_append]
    exact r1
  · have : g' = r := by simpa [Value.ownBlock] using hr
    subst this
    exact r3
/-- '[]string{s}' -/
theorem TS_lit (w : World) (s : List UInt8) : TS (w.alloc (.cells #[encStr s] 9)) (.slice (some ⟨w.heap.size, 0, none⟩) 1 1) [s] := by
  refine ⟨_, 1, rfl, by simp, fun i hi => ⟨_, 0, rfl, ?_⟩⟩
  obtain rfl : i = 0 := by simpa using hi
  simp
end Go.Proofs.Ytlgodokgebjjaaa

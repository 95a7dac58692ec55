/- the reference's Sorted: laws. -/
import Derived.RangeFuncNested
import Derived.RangeFuncBound
import Derived.RangeFuncCalls
import Derived.RangeFuncLeaves
import Derived.Shelf.Abstract
import Derived.Shelf.RegionOpen
import Derived.WalkKit
import Derived.OwnWalkIn
import Derived.TacticsInMore
import Derived.LoopNIn
import Derived.LoopIn
import Derived.Outline
import Derived.Lib.Hide
import Derived.Lib.SliceRun
import Derived.IntWalk
import Derived.WalkLawsBesides
import Derived.WalkSpells
import Derived.Laws.BitsAllLaws
import Derived.Lib.ConvBytes
import Derived.Maps.AppendAt
import Derived.Lib.AppendStr
import Derived.Lib.SlBytesConst
import Derived.Laws.AppendOwnNone
import Derived.Laws.OwnMore
import Derived.Laws.BytesArg
import Derived.Deep.RegionHeld3
import Derived.BigQuiet
import Derived.Deep.RegionLaw
import Derived.Deep.QuietTactic
import Derived.Lib.OthersKept
import Derived.Test.YthcggjehihkdoaaProg
import Derived.Deep.DeepFit
import Derived.Deep.AppendSrc
import Derived.Deep.Upon
import Derived.Sort.Walk0
import Derived.Test.YthcggjehihkdoaaTkC
set_option linter.unusedVariables false
set_option linter.unusedSimpArgs false
namespace Go.Proofs.Ythcggjehihkdoaa
open Go Go.RowKit Go.Shelf
open Go.Proofs (encStr)

theorem sizeT (w : World) : (sizeOf 9).run Try.prog w = .ok 1 w := by kernel_rfl
theorem elemT : Try.prog.elem 31 = 9 := by kernel_rfl
theorem tslice_lo (A : Option Addr) (n c lo : Nat) (h1 : lo ≤ n) (i : Int) (ei : i = lo) (m d : Nat) (em : m = n - lo) (ed : d = c - lo) (w : World) :
    (Instr.slice 31 (.slice A n c) (some (.int .i64 i)) none none).run Try.prog w = .ok (.slice (cutA A c lo) m d) w := by
  subst ei em ed
  rw [run_slice_l w 31 A n c (by rw [elemT]; exact Try.underlying31) .i64 lo (by omega) (by omega), elemT, sizeT]
  simp [Result.andThen, sliced, cutA]
theorem tslice_hm (A : Option Addr) (n c hi : Nat) (h2 : hi ≤ c) (j : Int) (ej : j = hi) (w : World) :
    (Instr.slice 31 (.slice A n c) none (some (.int .i64 j)) (some (.int .i64 j))).run Try.prog w = .ok (.slice A hi hi) w := by
  subst ej
  have e := run_slice_any w 31 A n c (by rw [elemT]; exact Try.underlying31) none (some (.int .i64 hi)) (some (.int .i64 hi))
  rw [e, elemT]
  have hb : (Instr.sliceBounds true n c none (some (.int .i64 (hi : Int))) (some (.int .i64 (hi : Int)))).run Try.prog w = .ok (0, hi, hi) w := by
    simp [Instr.sliceBounds, run_sliceBound, h2]
  rw [hb]
  simp only [Result.andThen, sizeT]
  cases A with
  | none => simp [sliced]
  | some a =>
    have : a.add 0 = a := by unfold Addr.add; simp
    simp [sliced, this]
theorem TS.drop {W : World} {A : Option Addr} {n c : Nat} {l : List (List UInt8)} (h : TS W (.slice A n c) l) (lo m d : Nat) (h1 : lo ≤ l.length) (em : m = n - lo) (ed : d = c - lo) : TS W (.slice (cutA A c lo) m d) (l.drop lo) := by
  obtain ⟨A', c', e, h2, h3⟩ := h
  cases e
  subst em ed
  refine ⟨cutA A c lo, c - lo, by rw [List.length_drop], by rw [List.length_drop]; omega, fun i hi => ?_⟩
  rw [List.length_drop] at hi
  obtain ⟨g, o, e, hc⟩ := h3 (lo + i) (by omega)
  subst e
  refine ⟨g, o + lo, ?_, ?_⟩
  · unfold cutA
    rw [if_neg (by omega)]
    simp [Addr.add]
  · rw [List.getElem_drop, ← hc]
    congr 2
    omega
theorem TS.takeC {W : World} {A : Option Addr} {n c : Nat} {l : List (List UInt8)} (h : TS W (.slice A n c) l) (k : Nat) (h1 : k ≤ l.length) : TS W (.slice A k k) (l.take k) := by
  obtain ⟨A', c', e, h2, h3⟩ := h
  cases e
  have hl : (l.take k).length = k := by rw [List.length_take]; omega
  refine ⟨A, k, by rw [hl], by rw [hl]; omega, fun i hi => ?_⟩
  obtain ⟨g, o, e, hc⟩ := h3 i (by omega)
  exact ⟨g, o, e, by rw [hc, List.getElem_take]⟩
theorem TS.src {W : World} {v : Value} {m : List (List UInt8)} (h : TS W v m) : Src Try.prog 1 31 v m.length (m.map encStr) W := by
  obtain ⟨A, c, rfl, h1, h2⟩ := id h
  by_cases h0 : 0 < m.length
  · obtain ⟨-, ad, rfl, hc⟩ := h.news h0
    exact Src.ofSlice W Try.underlying31 ad m.length c (m.map encStr) (by simp) hc (encStr_one m)
  · obtain rfl : m = [] := List.length_eq_zero_iff.1 (by omega)
    cases A with
    | none => exact Src.ofNil W Try.underlying31 c
    | some a => exact Src.ofSlice W Try.underlying31 a 0 c [] rfl (by simp) (by simp)
theorem runT_any {w : World} (ty : TypeId) (base : Nat) (v xv : Value) (ss m : List (List UInt8)) (hown : OT w base v ss) (hm : TS w xv m) (hlen : ss.length + m.length ≤ 1000000) (hbase : base ≤ w.heap.size) :
    ∃ v' w', (Builtin.append_ #[31, 31] ty #[v, xv]).run Try.prog w = .ok v' w' ∧ OT w' base v' (ss ++ m) ∧ w.grownBy w' v.ownBlock ∧ Below base w w' := by
  by_cases h0 : 0 < m.length
  · exact runT_append ty base v xv ss m hown hm h0 hlen hbase
  · obtain rfl : m = [] := List.length_eq_zero_iff.1 (by omega)
    obtain ⟨i0, hi, hz0, hz1, hz2⟩ := info_parts infoStr
    obtain ⟨A, c, rfl, h1, h2⟩ := hown.reads
    have hs := hm.src
    rw [← hz1] at hs
    refine ⟨_, w, run_append_nothing w 31 31 ty 9 i0 Try.underlying31 hi A ss.length c h1.1 xv hs, by rw [List.append_nil]; exact hown, ⟨rfl, rfl, rfl, Nat.le_refl _, fun _ _ _ => rfl⟩, Below.refl _ _⟩
theorem runT_cap {w : World} (ty : TypeId) (base : Nat) (A : Option Addr) (i : Nat) (xv : Value) (ss m : List (List UInt8)) (hss : TS w (.slice A i i) ss) (hm : TS w xv m) (h0 : 0 < m.length) (hlen : ss.length + m.length ≤ 1000000) (hbase : base ≤ w.heap.size) :
    ∃ v' w', (Builtin.append_ #[31, 31] ty #[.slice A i i, xv]).run Try.prog w = .ok v' w' ∧ OT w' base v' (ss ++ m) ∧ Below base w w' := by
  obtain ⟨i0, hi, hz0, hz1, hz2⟩ := info_parts infoStr
  have hs := hm.src
  obtain ⟨A', c', e, h1, h2⟩ := id hss
  cases e
  have hold : (Builtin.firstCells i0.size ss.length (.slice A ss.length ss.length)).run Try.prog w.drew = .ok (ss.map encStr).toArray w.drew := by
    rw [hz1]
    by_cases h3 : 0 < ss.length
    · obtain ⟨-, ad, rfl, hc⟩ := hss.news h3
      exact run_firstCells_some w.drew 1 ss.length ad ss.length ss.length (ss.map encStr) (by simp) (by simpa using hc)
    · obtain rfl : ss = [] := List.length_eq_zero_iff.1 (by omega)
      cases A with
      | none => simp [Builtin.firstCells]
      | some a => exact run_firstCells_some w.drew 1 0 a 0 0 [] rfl (by simp)
  rw [← hz1] at hs
  have hr := run_append_grow_src (P := Try.prog) (w := w) 31 31 ty 9 i0 _ Try.underlying31 hi hz0 A ss.length ss.length (ss.map encStr) hold xv m.length (m.map encStr) hs (by omega) (by omega) (by rw [hz2]; exact growslice_fits (by omega) (by omega))
  have hge := grownCap_ge w (ss.length + m.length) ss.length 9
  have hcm : grownCap w (ss.length + m.length) ss.length 9 ≤ maxLen := grownCap_le_maxLen w _ _ _ (by unfold maxLen; omega)
  refine ⟨_, _, hr, ?_, (Below.refl _ w).drew.alloc hbase _⟩
  unfold OT
  rw [List.length_append]
  refine ⟨by simp, .inr ⟨w.heap.size, _, _, rfl, hbase, heap_alloc_new w.drew _, hge, hcm, ?_, ?_⟩⟩
  · simp only [Value.cells, Array.size_append, List.size_toArray, List.length_append, List.length_map, size_zeroCells, List.length_cons, List.length_nil]
    omega
  · simp
    rw [← List.append_assoc, List.take_append_of_le_length (by simp), List.take_of_length_le (by simp)]
theorem stepT_any {w : World} {ops : Array Oper} {o : Oper} {a : Act} {K : Act → World → Prop} {Q : Exit → Act → World → Prop} {E : Prop} (hgd : o.guard = none) (s x : Operand)
    (ho : o.op = .call { callee := .builtin .append, args := #[s, x], argTypes := #[31, 31] })
    (base : Nat) (v xv : Value) (l m : List (List UInt8)) (hs : a.eval s = v) (hown : OT w base v l) (hx : a.eval x = xv) (hm : TS w xv m) (hlen : l.length + m.length ≤ 1000000) (hbase : base ≤ w.heap.size)
    (h : ∀ v' w', OT w' base v' (l ++ m) → w.grownBy w' v.ownBlock → Below base w w' → K (a.put o.dst v') w') : if Region.wanted o (yielded ops a.tmps) = true then Oper.wp Try.prog o a w K Q else E := by
  have hw : Region.wanted o (yielded ops a.tmps) = true := by simp [Region.wanted, hgd]
  rw [if_pos hw]
  obtain ⟨v', w', hrun, h1, h2, h3⟩ := runT_any o.type base v xv l m hown hm hlen hbase
  unfold Oper.wp
  simp [execOp, ho, resolve, invoke, builtin, hs, hx, hrun, Result.andThen]
  exact h v' w' h1 h2 h3
theorem stepT_cap {w : World} {ops : Array Oper} {o : Oper} {a : Act} {K : Act → World → Prop} {Q : Exit → Act → World → Prop} {E : Prop} (hgd : o.guard = none) (s x : Operand)
    (ho : o.op = .call { callee := .builtin .append, args := #[s, x], argTypes := #[31, 31] })
    (base : Nat) (A : Option Addr) (i : Nat) (xv : Value) (l m : List (List UInt8)) (hs : a.eval s = .slice A i i) (hl : TS w (.slice A i i) l) (hx : a.eval x = xv) (hm : TS w xv m) (h0 : 0 < m.length) (hlen : l.length + m.length ≤ 1000000) (hbase : base ≤ w.heap.size)
    (h : ∀ v' w', OT w' base v' (l ++ m) → Below base w w' → K (a.put o.dst v') w') : if Region.wanted o (yielded ops a.tmps) = true then Oper.wp Try.prog o a w K Q else E := by
  have hw : Region.wanted o (yielded ops a.tmps) = true := by simp [Region.wanted, hgd]
  rw [if_pos hw]
  obtain ⟨v', w', hrun, h1, h3⟩ := runT_cap o.type base A i xv l m hl hm h0 hlen hbase
  unfold Oper.wp
  simp [execOp, ho, resolve, invoke, builtin, hs, hx, hrun, Result.andThen]
  exact h v' w' h1 h3
theorem OT_lit (w : World) (s : List UInt8) : OT (w.alloc (.cells #[encStr s] 9)) w.heap.size (.slice (some ⟨w.heap.size, 0, none⟩) 1 1) [s] :=
  ⟨rfl, .inr ⟨w.heap.size, 1, _, rfl, Nat.le_refl _, heap_alloc_new w _, Nat.le_refl _, by unfold maxLen; omega, rfl, rfl⟩⟩
theorem less_facts (x s : List UInt8) (xk sk : ByteArray) (hx : (⟨x.toArray⟩ : ByteArray) = xk) (hs : (⟨s.toArray⟩ : ByteArray) = sk) : Op.bytesLess xk.toList sk.toList = decide (x < s) ∧ (xk.toList == sk.toList) = decide (x = s) := by
  subst hx hs
  rw [toList_bl, toList_bl, bl_mk, bl_mk]
  exact ⟨bytesLess_eq x s, by by_cases h : x = s <;> simp [h]⟩
end Go.Proofs.Ythcggjehihkdoaa

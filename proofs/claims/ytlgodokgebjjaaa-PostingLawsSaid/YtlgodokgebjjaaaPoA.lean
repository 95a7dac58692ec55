/- slices of numbers -/
import Derived.RangeFuncNested
import Derived.RangeFuncBound
import Derived.RangeFuncCalls
import Derived.RangeFuncLeaves
import Derived.Shelf.Abstract
import Derived.Shelf.RegionOpen
import Derived.WalkKit
import Derived.OwnWalkIn
import Derived.TacticsInMore
import Derived.LoopNIn
import Derived.LoopIn
import Derived.Outline
import Derived.Lib.Hide
import Derived.Lib.SliceRun
import Derived.IntWalk
import Derived.WalkLawsBesides
import Derived.WalkSpells
import Derived.Laws.BitsAllLaws
import Derived.Lib.ConvBytes
import Derived.Maps.AppendAt
import Derived.Lib.AppendStr
import Derived.Lib.SlBytesConst
import Derived.Laws.AppendOwnNone
import Derived.Laws.OwnMore
import Derived.Laws.BytesArg
import Derived.Deep.RegionHeld3
import Derived.BigQuiet
import Derived.Deep.RegionLaw
import Derived.Deep.QuietTactic
import Derived.Lib.OthersKept
import Derived.Test.YtlgodokgebjjaaaProg
import Derived.Deep.DeepFit
import Derived.Deep.AppendSrc
import Derived.Deep.Upon
import Derived.Sort.Walk0
import Derived.Test.YtlgodokgebjjaaaDoD
import Derived.Test.YtlgodokgebjjaaaPoMath
set_option linter.unusedVariables false
set_option linter.unusedSimpArgs false
namespace Go.Proofs.Ytlgodokgebjjaaa
open Go Go.RowKit Go.Shelf

def eI (n : Int) : Value := .int .i64 n
/-- numbers of the call's own -/
def ON (W : World) (base : Nat) (v : Value) (ss : List Int) : Prop := W.ownsRow base 2 1 v ss.length (ss.map eI)
/-- a slice of numbers -/
def NS (W : World) (v : Value) (ss : List Int) : Prop := ∃ A c, v = .slice A ss.length c ∧ (ss.length ≤ c ∧ c ≤ 9223372036854775807) ∧ ∀ i (h : i < ss.length), ∃ g o, A = some ⟨g, o, none⟩ ∧ W.cell? ⟨g, o + i, none⟩ = some (eI ss[i])
theorem NS.below {W W' : World} {v : Value} {l : List Int} (h : NS W v l) (hb : Below W.heap.size W W') : NS W' v l := by
  obtain ⟨A, c, rfl, h1, h2⟩ := h
  refine ⟨A, c, rfl, h1, fun i hi => ?_⟩
  obtain ⟨g, o, e, hc⟩ := h2 i hi
  exact ⟨g, o, e, (hb.cell (p := ⟨g, o + i, none⟩) (World.block_lt_of_cell? W _ hc)).trans hc⟩
theorem infoI : (Try.prog.info? 2).map (fun i => (i.zero, i.size, i.bytes)) = some (some (.int .i64 0), 1, 8) := by kernel_rfl
theorem ON.nil (W : World) (base : Nat) : ON W base (.slice none 0 0) [] := World.ownsRow_nil _ _ _ _
theorem ON.mono {W : World} {B B' : Nat} {v : Value} {l : List Int} (h : ON W B v l) (hb : B' ≤ B) : ON W B' v l := by
  obtain ⟨h1, h2⟩ := h
  refine ⟨h1, ?_⟩
  rcases h2 with h | ⟨g, cap, cur, e, hg, r⟩
  · exact .inl h
  · exact .inr ⟨g, cap, cur, e, by omega, r⟩
theorem ON.below {W W' : World} {B : Nat} {v : Value} {l : List Int} (h : ON W B v l) (hb : Below W.heap.size W W') : ON W' B v l :=
  h.kept (row := none) ⟨hb.os, hb.tape, hb.output, hb.size, fun k hk _ => hb.block k hk⟩ (by cases v.ownBlock <;> simp)
theorem ON.alloc {W : World} {B : Nat} {v : Value} {l : List Int} (h : ON W B v l) (o : Obj) : ON (W.alloc o) B v l := h.below ((Below.refl W.heap.size W).alloc (Nat.le_refl _) o)
theorem ON.reads {W : World} {base : Nat} {v : Value} {ss : List Int} (h : ON W base v ss) : NS W v ss := by
  obtain ⟨hl, h⟩ := h
  rcases h with ⟨rfl, h0⟩ | ⟨g, cap, cur, rfl, hb, hg, hc, hm, hs', ht⟩
  · obtain rfl : ss = [] := List.length_eq_zero_iff.1 h0
    exact ⟨none, 0, rfl, by simp, fun i h => by simp at h⟩
  · refine ⟨_, cap, rfl, by unfold maxLen at hm; omega, fun i hi => ⟨g, 0, rfl, ?_⟩⟩
    have e : (cur.toList.take (ss.length * 1))[i]? = (ss.map eI)[i]? := by rw [ht]
    rw [List.getElem?_take_of_lt (by omega)] at e
    simp only [World.cell?, hg, Nat.zero_add]
    rw [List.getElem?_map, List.getElem?_eq_getElem hi] at e
    simpa using e
theorem eI_one (m : List Int) : ∀ u ∈ m.map eI, u.oneCell' = true := by
  intro u hu
  obtain ⟨x, _, rfl⟩ := List.mem_map.1 hu
  rfl
theorem NS.news {W : World} {A : Option Addr} {k c : Nat} {m : List Int} (h : NS W (.slice A k c) m) (h0 : 0 < m.length) : k = m.length ∧ ∃ ad, A = some ad ∧ ∀ j u, (m.map eI)[j]? = some u → W.cell? (ad.add j) = some u := by
  obtain ⟨A', c', e, h1, h2⟩ := h
  cases e
  obtain ⟨g, o, rfl, -⟩ := h2 0 h0
  refine ⟨rfl, _, rfl, fun j u hj => ?_⟩
  have hj' : j < m.length := by have := (List.getElem?_eq_some_iff.1 hj).1; simpa using this
  obtain ⟨g', o', e, hc⟩ := h2 j hj'
  cases e
  rw [List.getElem?_map, List.getElem?_eq_getElem hj'] at hj
  cases hj
  rw [Lib.add_plain']
  exact hc
theorem runN_append {w : World} (ty : TypeId) (base : Nat) (v xv : Value) (ss m : List Int) (hown : ON w base v ss) (hm : NS w xv m) (h0 : 0 < m.length) (hlen : ss.length + m.length ≤ 1000000) (hbase : base ≤ w.heap.size) :
    ∃ v' w', (Builtin.append_ #[34, 34] ty #[v, xv]).run Try.prog w = .ok v' w' ∧ ON w' base v' (ss ++ m) ∧ w.grownBy w' v.ownBlock ∧ Below base w w' := by
  obtain ⟨i0, hi, hz0, hz1, hz2⟩ := info_parts infoI
  obtain ⟨A, c, rfl, -, -⟩ := id hm
  obtain ⟨-, ad, rfl, hc⟩ := hm.news h0
  obtain ⟨v', w', hr, hown', hgrow, _⟩ := run_append_own (P := Try.prog) w base 34 ty 2 i0 _ 1 8 Try.underlying34 hi hz0 hz1 hz2 rfl (by decide) v ss.length _ hown ad m.length c (m.map eI) (by simp) hc (eI_one m) (by unfold maxLen; omega) (by omega) hbase
  refine ⟨v', w', hr, ?_, hgrow, (Below.refl base w).grown hgrow hbase (fun k hk => (hown.lt k hk).1)⟩
  unfold ON
  rw [List.map_append, List.length_append]
  exact hown'
theorem wpN_append {w : World} {ops : Array Oper} {rest : List Oper} {o : Oper} {a : Act} {Q : Exit → Act → World → Prop} (hgd : o.guard = none) (s x : Operand)
    (ho : o.op = .call { callee := .builtin .append, args := #[s, x], argTypes := #[34, 34] })
    (base : Nat) (v xv : Value) (ss m : List Int) (hs : a.eval s = v) (hown : ON w base v ss) (hx : a.eval x = xv) (hm : NS w xv m) (h0 : 0 < m.length) (hlen : ss.length + m.length ≤ 1000000) (hbase : base ≤ w.heap.size)
    (h : ∀ v' w', ON w' base v' (ss ++ m) → w.grownBy w' v.ownBlock → Below base w w' → wpList Try.prog ops Q rest (a.put o.dst v') w') : wpList Try.prog ops Q (o :: rest) a w := by
  refine wpList_plain hgd fun K hK => ?_
  obtain ⟨v', w', hrun, h1, h2, h3⟩ := runN_append o.type base v xv ss m hown hm h0 hlen hbase
  unfold Oper.wp
  simp [execOp, ho, resolve, invoke, builtin, hs, hx, hrun, Result.andThen]
  exact hK _ _ (h v' w' h1 h2 h3)
/-- append(own, numbers...) inside a fence -/
theorem wpNI_append {F : Fence} {n : Nat} {w : World} {ops : Array Oper} {rest : List Oper} {o : Oper} {a : Act} {Q : Exit → Act → World → Prop}
    (hg : o.guard = none) (s x : Operand) (hop : o.op = Op.call { callee := Callee.builtin Builtin.append, args := #[s, x], argTypes := #[34, 34] })
    (base : Nat) (v xv : Value) (l m : List Int) (hs : a.eval s = v) (hown : ON w base v l) (hx : a.eval x = xv) (hm : NS w xv m) (h0 : 0 < m.length) (hlen : l.length + m.length ≤ 1000000) (hbase : base ≤ w.heap.size)
    (hK : ∀ v' w', ON w' base v' (l ++ m) → w.grownBy w' v.ownBlock → (∀ r, v'.ownBlock = some r → v.ownBlock = some r ∨ r = w.heap.size) → wpListIn F n Try.prog ops Q rest (a.put o.dst v') w') :
    wpListIn F n Try.prog ops Q (o :: rest) a w := by
  obtain ⟨i0, hi, hz0, hz1, hz2⟩ := info_parts infoI
  obtain ⟨A, c, rfl, -, -⟩ := id hm
  obtain ⟨-, ad, rfl, hc⟩ := hm.news h0
  refine wpListIn_append_lies w hg s x 34 hop base 2 i0 (.int .i64 0) 1 8 Try.underlying34 hi hz0 hz1 hz2 rfl (by decide) v l.length (l.map eI) hs hown ad m.length c (m.map eI) hx (by simp) hc (eI_one m) h0 (by unfold maxLen; omega) (by omega) hbase ?_
  intro g' cap w' r1 r2 r3
  refine hK _ _ ?_ r2 (fun r hr => ?_)
  · unfold ON
    rw [List.map_append, List.length_append]
    exact r1
  · have : g' = r := by simpa [Value.ownBlock] using hr
    subst this
    exact r3
/-- '[]string{s}' -/
theorem NS_lit (w : World) (s : Int) : NS (w.alloc (.cells #[eI s] 2)) (.slice (some ⟨w.heap.size, 0, none⟩) 1 1) [s] := by
  refine ⟨_, 1, rfl, by simp, fun i hi => ⟨_, 0, rfl, ?_⟩⟩
  obtain rfl : i = 0 := by simpa using hi
  simp
theorem sizeN (w : World) : (sizeOf 2).run Try.prog w = .ok 1 w := by kernel_rfl
theorem elemN : Try.prog.elem 34 = 2 := by kernel_rfl
theorem nslice_lo (A : Option Addr) (n c lo : Nat) (h1 : lo ≤ n) (i : Int) (ei : i = lo) (m d : Nat) (em : m = n - lo) (ed : d = c - lo) (w : World) :
    (Instr.slice 34 (.slice A n c) (some (.int .i64 i)) none none).run Try.prog w = .ok (.slice (cutA A c lo) m d) w := by
  subst ei em ed
  rw [run_slice_l w 34 A n c (by rw [elemN]; exact Try.underlying34) .i64 lo (by omega) (by omega), elemN, sizeN]
  simp [Result.andThen, sliced, cutA]
theorem nslice_hm (A : Option Addr) (n c hi : Nat) (h2 : hi ≤ c) (j : Int) (ej : j = hi) (w : World) :
    (Instr.slice 34 (.slice A n c) none (some (.int .i64 j)) (some (.int .i64 j))).run Try.prog w = .ok (.slice A hi hi) w := by
  subst ej
  have e := run_slice_any w 34 A n c (by rw [elemN]; exact Try.underlying34) none (some (.int .i64 hi)) (some (.int .i64 hi))
  rw [e, elemN]
  have hb : (Instr.sliceBounds true n c none (some (.int .i64 (hi : Int))) (some (.int .i64 (hi : Int)))).run Try.prog w = .ok (0, hi, hi) w := by
    simp [Instr.sliceBounds, run_sliceBound, h2]
  rw [hb]
  simp only [Result.andThen, sizeN]
  cases A with
  | none => simp [sliced]
  | some a =>
    have : a.add 0 = a := by unfold Addr.add; simp
    simp [sliced, this]
theorem NS.drop {W : World} {A : Option Addr} {n c : Nat} {l : List Int} (h : NS W (.slice A n c) l) (lo m d : Nat) (h1 : lo ≤ l.length) (em : m = n - lo) (ed : d = c - lo) : NS W (.slice (cutA A c lo) m d) (l.drop lo) := by
  obtain ⟨A', c', e, h2, h3⟩ := h
  cases e
  subst em ed
  refine ⟨cutA A c lo, c - lo, by rw [List.length_drop], by rw [List.length_drop]; omega, fun i hi => ?_⟩
  rw [List.length_drop] at hi
  obtain ⟨g, o, e, hc⟩ := h3 (lo + i) (by omega)
  subst e
  refine ⟨g, o + lo, ?_, ?_⟩
  · unfold cutA
    rw [if_neg (by omega)]
    simp [Addr.add]
  · rw [List.getElem_drop, ← hc]
    congr 2
    omega
theorem NS.takeC {W : World} {A : Option Addr} {n c : Nat} {l : List Int} (h : NS W (.slice A n c) l) (k : Nat) (h1 : k ≤ l.length) : NS W (.slice A k k) (l.take k) := by
  obtain ⟨A', c', e, h2, h3⟩ := h
  cases e
  have hl : (l.take k).length = k := by rw [List.length_take]; omega
  refine ⟨A, k, by rw [hl], by rw [hl]; omega, fun i hi => ?_⟩
  obtain ⟨g, o, e, hc⟩ := h3 i (by omega)
  exact ⟨g, o, e, by rw [hc, List.getElem_take]⟩
theorem NS.src {W : World} {v : Value} {m : List Int} (h : NS W v m) : Src Try.prog 1 34 v m.length (m.map eI) W := by
  obtain ⟨A, c, rfl, h1, h2⟩ := id h
  by_cases h0 : 0 < m.length
  · obtain ⟨-, ad, rfl, hc⟩ := h.news h0
    exact Src.ofSlice W Try.underlying34 ad m.length c (m.map eI) (by simp) hc (eI_one m)
  · obtain rfl : m = [] := List.length_eq_zero_iff.1 (by omega)
    cases A with
    | none => exact Src.ofNil W Try.underlying34 c
    | some a => exact Src.ofSlice W Try.underlying34 a 0 c [] rfl (by simp) (by simp)
theorem runN_any {w : World} (ty : TypeId) (base : Nat) (v xv : Value) (ss m : List Int) (hown : ON w base v ss) (hm : NS w xv m) (hlen : ss.length + m.length ≤ 1000000) (hbase : base ≤ w.heap.size) :
    ∃ v' w', (Builtin.append_ #[34, 34] ty #[v, xv]).run Try.prog w = .ok v' w' ∧ ON w' base v' (ss ++ m) ∧ w.grownBy w' v.ownBlock ∧ Below base w w' := by
  by_cases h0 : 0 < m.length
  · exact runN_append ty base v xv ss m hown hm h0 hlen hbase
  · obtain rfl : m = [] := List.length_eq_zero_iff.1 (by omega)
    obtain ⟨i0, hi, hz0, hz1, hz2⟩ := info_parts infoI
    obtain ⟨A, c, rfl, h1, h2⟩ := hown.reads
    have hs := hm.src
    rw [← hz1] at hs
    refine ⟨_, w, run_append_nothing w 34 34 ty 2 i0 Try.underlying34 hi A ss.length c h1.1 xv hs, by rw [List.append_nil]; exact hown, ⟨rfl, rfl, rfl, Nat.le_refl _, fun _ _ _ => rfl⟩, Below.refl _ _⟩
theorem runN_cap {w : World} (ty : TypeId) (base : Nat) (A : Option Addr) (i : Nat) (xv : Value) (ss m : List Int) (hss : NS w (.slice A i i) ss) (hm : NS w xv m) (h0 : 0 < m.length) (hlen : ss.length + m.length ≤ 1000000) (hbase : base ≤ w.heap.size) :
    ∃ v' w', (Builtin.append_ #[34, 34] ty #[.slice A i i, xv]).run Try.prog w = .ok v' w' ∧ ON w' base v' (ss ++ m) ∧ Below base w w' := by
  obtain ⟨i0, hi, hz0, hz1, hz2⟩ := info_parts infoI
  have hs := hm.src
  obtain ⟨A', c', e, h1, h2⟩ := id hss
  cases e
  have hold : (Builtin.firstCells i0.size ss.length (.slice A ss.length ss.length)).run Try.prog w.drew = .ok (ss.map eI).toArray w.drew := by
    rw [hz1]
    by_cases h3 : 0 < ss.length
    · obtain ⟨-, ad, rfl, hc⟩ := hss.news h3
      exact run_firstCells_some w.drew 1 ss.length ad ss.length ss.length (ss.map eI) (by simp) (by simpa using hc)
    · obtain rfl : ss = [] := List.length_eq_zero_iff.1 (by omega)
      cases A with
      | none => simp [Builtin.firstCells]
      | some a => exact run_firstCells_some w.drew 1 0 a 0 0 [] rfl (by simp)
  rw [← hz1] at hs
  have hr := run_append_grow_src (P := Try.prog) (w := w) 34 34 ty 2 i0 _ Try.underlying34 hi hz0 A ss.length ss.length (ss.map eI) hold xv m.length (m.map eI) hs (by omega) (by omega) (by rw [hz2]; exact growslice_fits (by omega) (by omega))
  have hge := grownCap_ge w (ss.length + m.length) ss.length 2
  have hcm : grownCap w (ss.length + m.length) ss.length 2 ≤ maxLen := grownCap_le_maxLen w _ _ _ (by unfold maxLen; omega)
  refine ⟨_, _, hr, ?_, (Below.refl _ w).drew.alloc hbase _⟩
  unfold ON
  rw [List.length_append]
  refine ⟨by simp, .inr ⟨w.heap.size, _, _, rfl, hbase, heap_alloc_new w.drew _, hge, hcm, ?_, ?_⟩⟩
  · simp only [Value.cells, Array.size_append, List.size_toArray, List.length_append, List.length_map, size_zeroCells, List.length_cons, List.length_nil]
    omega
  · simp
    rw [← List.append_assoc, List.take_append_of_le_length (by simp), List.take_of_length_le (by simp)]
theorem stepN_any {w : World} {ops : Array Oper} {o : Oper} {a : Act} {K : Act → World → Prop} {Q : Exit → Act → World → Prop} {E : Prop} (hgd : o.guard = none) (s x : Operand)
    (ho : o.op = .call { callee := .builtin .append, args := #[s, x], argTypes := #[34, 34] })
    (base : Nat) (v xv : Value) (l m : List Int) (hs : a.eval s = v) (hown : ON w base v l) (hx : a.eval x = xv) (hm : NS w xv m) (hlen : l.length + m.length ≤ 1000000) (hbase : base ≤ w.heap.size)
    (h : ∀ v' w', ON w' base v' (l ++ m) → w.grownBy w' v.ownBlock → Below base w w' → K (a.put o.dst v') w') : if Region.wanted o (yielded ops a.tmps) = true then Oper.wp Try.prog o a w K Q else E := by
  have hw : Region.wanted o (yielded ops a.tmps) = true := by simp [Region.wanted, hgd]
  rw [if_pos hw]
  obtain ⟨v', w', hrun, h1, h2, h3⟩ := runN_any o.type base v xv l m hown hm hlen hbase
  unfold Oper.wp
  simp [execOp, ho, resolve, invoke, builtin, hs, hx, hrun, Result.andThen]
  exact h v' w' h1 h2 h3
theorem stepN_cap {w : World} {ops : Array Oper} {o : Oper} {a : Act} {K : Act → World → Prop} {Q : Exit → Act → World → Prop} {E : Prop} (hgd : o.guard = none) (s x : Operand)
    (ho : o.op = .call { callee := .builtin .append, args := #[s, x], argTypes := #[34, 34] })
    (base : Nat) (A : Option Addr) (i : Nat) (xv : Value) (l m : List Int) (hs : a.eval s = .slice A i i) (hl : NS w (.slice A i i) l) (hx : a.eval x = xv) (hm : NS w xv m) (h0 : 0 < m.length) (hlen : l.length + m.length ≤ 1000000) (hbase : base ≤ w.heap.size)
    (h : ∀ v' w', ON w' base v' (l ++ m) → Below base w w' → K (a.put o.dst v') w') : if Region.wanted o (yielded ops a.tmps) = true then Oper.wp Try.prog o a w K Q else E := by
  have hw : Region.wanted o (yielded ops a.tmps) = true := by simp [Region.wanted, hgd]
  rw [if_pos hw]
  obtain ⟨v', w', hrun, h1, h3⟩ := runN_cap o.type base A i xv l m hl hm h0 hlen hbase
  unfold Oper.wp
  simp [execOp, ho, resolve, invoke, builtin, hs, hx, hrun, Result.andThen]
  exact h v' w' h1 h3
theorem ON_lit (w : World) (s : Int) : ON (w.alloc (.cells #[eI s] 2)) w.heap.size (.slice (some ⟨w.heap.size, 0, none⟩) 1 1) [s] :=
  ⟨rfl, .inr ⟨w.heap.size, 1, _, rfl, Nat.le_refl _, heap_alloc_new w _, Nat.le_refl _, by unfold maxLen; omega, rfl, rfl⟩⟩
end Go.Proofs.Ytlgodokgebjjaaa

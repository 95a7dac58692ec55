/- the words of the walks: rows, slices of texts, frames. -/
import Derived.RangeFuncNested
import Derived.RangeFuncBound
import Derived.RangeFuncCalls
import Derived.RangeFuncLeaves
import Derived.Shelf.Abstract
import Derived.Shelf.RegionOpen
import Derived.WalkKit
import Derived.OwnWalkIn
import Derived.TacticsInMore
import Derived.LoopNIn
import Derived.LoopIn
import Derived.Outline
import Derived.Lib.Hide
import Derived.Lib.SliceRun
import Derived.IntWalk
import Derived.WalkLawsBesides
import Derived.WalkSpells
import Derived.Laws.BitsAllLaws
import Derived.Lib.ConvBytes
import Derived.Maps.AppendAt
import Derived.Lib.AppendStr
import Derived.Lib.SlBytesConst
import Derived.Laws.AppendOwnNone
import Derived.Laws.OwnMore
import Derived.Laws.BytesArg
import Derived.Deep.RegionHeld3
import Derived.BigQuiet
import Derived.Deep.RegionLaw
import Derived.Deep.QuietTactic
import Derived.Lib.OthersKept
import Derived.Test.YtbcnalabalegfaaProg
import Derived.Deep.DeepFit
import Derived.Scope
import Derived.Lib.Strings
import Derived.Sort.EncStr
import Derived.Test.YtbcnalabalegfaaRange
import Derived.Test.YtbcnalabalegfaaGen
set_option linter.unusedVariables false
set_option linter.unusedSimpArgs false
namespace Go.Proofs.Ytbcnalabalegfaa
open Go Go.RowKit Go.Shelf
open Go.Proofs (encStr)
attribute [local go_sem] Oper.semAt_some

theorem add_pl (b o i : Nat) : (⟨b, o, none⟩ : Addr).add i = ⟨b, o + i, none⟩ := by unfold Addr.add; split <;> simp_all
/-- a text's bytes -/
def bl (s : ByteArray) : List UInt8 := s.data.toList
theorem bl_len (s : ByteArray) : (bl s).length = s.size := by rw [Lib.size_eq]; rfl
theorem bl_get (s : ByteArray) (i : Nat) (h : i < s.size) : (s[i]'h).toNat = gb (bl s) i := by
  unfold gb bl
  have h2 : i < s.data.size := h
  rw [Array.getElem?_toList, Array.getElem?_eq_getElem h2]
  rfl
theorem bl_extract (s : ByteArray) (a b : Nat) : bl (s.extract a b) = ((bl s).drop a).take (b - a) := Lib.extract_data s a b
theorem bl_ext {a b : ByteArray} (h : bl a = bl b) : a = b := by
  cases a with | mk x => cases b with | mk y =>
  simp only [bl] at h
  rw [Array.toList_inj.1 h]
theorem bl_mk (l : List UInt8) : bl ⟨l.toArray⟩ = l := by simp [bl]
theorem mk_bl (s : ByteArray) : (⟨(bl s).toArray⟩ : ByteArray) = s := by cases s; simp [bl]
theorem toList_bl (s : ByteArray) : s.toList = bl s := by
  exact ByteArray.toList_eq s
theorem beq_bl (a b : ByteArray) : (a.toList == b.toList) = (bl a == bl b) := by rw [toList_bl, toList_bl]

theorem ret_i64 {a b : Int} (h : a = b) : Ending.returned (.int .i64 a) = .returned (.int .i64 b) := by rw [h]
theorem ret_b {a b : Bool} (h : a = b) : Ending.returned (.bool a) = .returned (.bool b) := by rw [h]
/-- a row of memory that holds these values -/
def Row (W : World) (b : Nat) (t : TypeId) (l : List Value) : Prop := W.heap[b]? = some (.cells l.toArray t (0, 0))
theorem Row.lt {W : World} {b : Nat} {t : TypeId} {l : List Value} (h : Row W b t l) : b < W.heap.size := (Array.getElem?_eq_some_iff.1 h).1
theorem Row.cell {W : World} {b : Nat} {t : TypeId} {l : List Value} (h : Row W b t l) (i : Nat) : W.cell? ⟨b, i, none⟩ = l[i]? := by
  rw [cell_of_row W b i _ t _ h]; simp
theorem Row.frozen {W : World} {b : Nat} {t : TypeId} {l : List Value} (h : Row W b t l) (i : Nat) : W.frozen? ⟨b, i, none⟩ = false := frozen_of_row W b i _ t h
theorem Row.set {W : World} {b : Nat} {t : TypeId} {l : List Value} (h : Row W b t l) (i : Nat) (v : Value) : Row (W.setCell ⟨b, i, none⟩ v) b t (l.set i v) := by
  unfold Row
  rw [heap_setCell_same W b i _ t v h]
  congr 2
  simp
theorem Row.other {W : World} {b : Nat} {t : TypeId} {l : List Value} (h : Row W b t l) (a : Addr) (v : Value) (hb : b ≠ a.block) : Row (W.setCell a v) b t l := by
  unfold Row; rw [heap_setCell_other W a b v hb]; exact h
theorem Row.new (W : World) (c : Array Value) (t : TypeId) : Row (W.alloc (.cells c t)) W.heap.size t c.toList := by
  unfold Row; rw [heap_alloc_new]
theorem Row.alloc {W : World} {b : Nat} {t : TypeId} {l : List Value} (h : Row W b t l) (o : Obj) : Row (W.alloc o) b t l := by
  unfold Row; rw [heap_alloc_old _ _ _ h.lt]; exact h
theorem Row.below {W W' : World} {b n : Nat} {t : TypeId} {l : List Value} (h : Row W b t l) (hb : Below n W W') (hn : b < n) : Row W' b t l := by
  unfold Row; rw [hb.block b hn]; exact h
theorem Row.belowS {W W' : World} {b : Nat} {t : TypeId} {l : List Value} (h : Row W b t l) (hb : Below W.heap.size W W') : Row W' b t l := h.below hb h.lt

structure Mine (A : Nat) (a w : World) : Prop where
  le : A ≤ w.heap.size
  bel : Below A a w
theorem Mine.call {A : Nat} {a w w' : World} (hb : Below w.heap.size w w') (h : Mine A a w) : Mine A a w' := ⟨Nat.le_trans h.le hb.size, h.bel.trans (hb.mono h.le)⟩
theorem Mine.alloc {A : Nat} {a w : World} (h : Mine A a w) (o : Obj) : Mine A a (w.alloc o) := ⟨by show A ≤ (w.heap.push o).size; have := h.le; simp; omega, h.bel.alloc h.le o⟩
theorem Mine.drew {A : Nat} {a w : World} (h : Mine A a w) : Mine A a w.drew := ⟨h.le, h.bel.drew⟩
theorem Mine.put {A : Nat} {a w : World} (h : Mine A a w) (p : Addr) (v : Value) (hb : A ≤ p.block) : Mine A a (w.setCell p v) := ⟨by have := h.le; simp [World.setCell]; omega, h.bel.setCell hb v⟩
theorem Mine.refl (w : World) : Mine w.heap.size w w := ⟨Nat.le_refl _, Below.refl _ _⟩
theorem Row.cell0 {W : World} {b : Nat} {t : TypeId} {x : Value} {l : List Value} (h : Row W b t (x :: l)) : W.cell? ⟨b, 0, none⟩ = some x := h.cell 0
theorem Row.cell1 {W : World} {b : Nat} {t : TypeId} {x y : Value} {l : List Value} (h : Row W b t (x :: y :: l)) : W.cell? ⟨b, 1, none⟩ = some y := h.cell 1
theorem Mine.callN {A n : Nat} {a w w' : World} (hb : Below n w w') (h : Mine A a w) (hn : A ≤ n) : Mine A a w' := ⟨Nat.le_trans h.le hb.size, h.bel.trans (hb.mono hn)⟩
theorem alloc_size (w : World) (o : Obj) : (w.alloc o).heap.size = w.heap.size + 1 := by show (w.heap.push _).size = _; simp
theorem boxed_keepOn {n₀ : Nat} {D : Nat → Prop} {W W' : World} {B : Nat} {t : TypeId} {v : Value} (h : Boxed W B t v) (hk : KeepOn n₀ D W W') (hd : B < n₀ ∨ D B) : Boxed W' B t v :=
  (hk.block B h.lt hd).trans h
/-- the block that a slice lies in -/
def blockOf : Value → Option Nat
  | .slice (some a) _ _ => some a.block
  | _ => none
theorem blockOf_cut (A : Option Addr) (n c lo m d k : Nat) : blockOf (.slice (cutA A c lo) m d) = blockOf (.slice A n k) := by
  unfold cutA
  split
  · cases A <;> rfl
  · cases A with
    | none => rfl
    | some a => unfold blockOf Addr.add; simp only [Option.map_some]; split <;> rfl
theorem SB.block {W : World} {v : Value} {l : List UInt8} (h : SB W v l) (h0 : 0 < l.length) : ∃ g, blockOf v = some g ∧ g < W.heap.size ∧ ∀ W', W'.heap[g]? = W.heap[g]? → SB W' v l := by
  obtain ⟨A, c, rfl, h1, h2, h3⟩ := h.form
  obtain ⟨g, o, rfl, hc⟩ := h3 h0
  refine ⟨g, rfl, World.block_lt_of_cell? W _ (hc 0 h0), fun W' he => ?_⟩
  refine .inr ⟨_, c, rfl, h1, h2, fun _ => ⟨g, o, rfl, fun i hi => ?_⟩⟩
  rw [← hc i hi]
  simp [World.cell?, he]
theorem SB.empty {W : World} {v : Value} {l : List UInt8} (h : SB W v l) (h0 : l.length = 0) (W' : World) : SB W' v l := by
  obtain rfl : l = [] := List.length_eq_zero_iff.1 h0
  rcases h with h | ⟨ad, c, rfl, h1, h2, h3⟩
  · exact .inl h
  · exact .inr ⟨ad, c, rfl, h1, h2, fun h => by simp at h⟩
/-- it lies below n₀ or in a block that M names -/
def SBM (n₀ : Nat) (M : Nat → Prop) (W : World) (v : Value) (l : List UInt8) : Prop := SB W v l ∧ (0 < l.length → ∃ g, blockOf v = some g ∧ (g < n₀ ∨ M g))
theorem SBM.keep {n₀ : Nat} {M : Nat → Prop} {W W' : World} {v : Value} {l : List UInt8} (h : SBM n₀ M W v l) (hk : KeepOn n₀ M W W') : SBM n₀ M W' v l := by
  refine ⟨?_, h.2⟩
  by_cases h0 : 0 < l.length
  · obtain ⟨g, e, hlt, hm⟩ := h.1.block h0
    obtain ⟨g', e', hg⟩ := h.2 h0
    rw [e] at e'
    cases e'
    exact hm W' (hk.block g hlt hg)
  · exact h.1.empty (by omega) W'
/-- append(own, bytes...) inside a fence -/
theorem wpBI_append {F : Fence} {n : Nat} {w : World} {ops : Array Oper} {rest : List Oper} {o : Oper} {a : Act} {Q : Exit → Act → World → Prop}
    (hg : o.guard = none) (s x : Operand) (hop : o.op = Op.call { callee := Callee.builtin Builtin.append, args := #[s, x], argTypes := #[28, 28] })
    (base : Nat) (v xv : Value) (l m : List UInt8) (hs : a.eval s = v) (hown : OB w base v l) (hx : a.eval x = xv) (hm : SB w xv m) (h0 : 0 < m.length) (hlen : l.length + m.length ≤ 140737488355328) (hbase : base ≤ w.heap.size)
    (hK : ∀ v' w', OB w' base v' (l ++ m) → w.grownBy w' v.ownBlock → (∀ r, v'.ownBlock = some r → v.ownBlock = some r ∨ r = w.heap.size) → wpListIn F n Try.prog ops Q rest (a.put o.dst v') w') :
    wpListIn F n Try.prog ops Q (o :: rest) a w := by
  obtain ⟨i0, hi, hz0, hz1, hz2⟩ := info_parts info5
  obtain ⟨A, c, rfl, h1, h2, h3⟩ := hm.form
  obtain ⟨g, o', rfl, hc⟩ := h3 h0
  refine wpListIn_append_lies w hg s x 28 hop base 5 i0 (.int .u8 0) 1 1 Try.underlying28 hi hz0 hz1 hz2 rfl (by decide) v l.length (enc8 l) hs hown ⟨g, o', none⟩ m.length c (enc8 m) hx (by simp [enc8]) (fun j u hj => ?_) (enc8_one m) h0 (by unfold maxLen; omega) (by omega) hbase ?_
  · have hj' : j < m.length := by have := (List.getElem?_eq_some_iff.1 hj).1; simpa [enc8] using this
    rw [enc8_get m j hj'] at hj
    cases hj
    rw [add_pl]
    exact hc j hj'
  · intro g' cap w' r1 r2 r3
    refine hK _ _ ?_ r2 (fun r hr => ?_)
    · unfold OB
      rw [enc8_append, List.length_append]
      exact r1
    · have : g' = r := by simpa [Value.ownBlock] using hr
      subst this
      exact r3
theorem wpBI_appendS {F : Fence} {n : Nat} {w : World} {ops : Array Oper} {rest : List Oper} {o : Oper} {a : Act} {Q : Exit → Act → World → Prop}
    (hg : o.guard = none) (s x : Operand) (hop : o.op = Op.call { callee := Callee.builtin Builtin.append, args := #[s, x], argTypes := #[28, 9] })
    (base : Nat) (v : Value) (l m : List UInt8) (str : ByteArray) (hs : a.eval s = v) (hown : OB w base v l) (hx : a.eval x = .string str) (hm : str.data.toList = m) (hlen : l.length + m.length ≤ 140737488355328) (hbase : base ≤ w.heap.size)
    (hK : ∀ v' w', OB w' base v' (l ++ m) → w.grownBy w' v.ownBlock → wpListIn F n Try.prog ops Q rest (a.put o.dst v') w') :
    wpListIn F n Try.prog ops Q (o :: rest) a w := by
  obtain ⟨i0, hi, hz0, hz1, hz2⟩ := info_parts info5
  have hsz : str.size = m.length := by rw [← hm, Array.length_toList]; rfl
  have hsc : Lib.strCells str = enc8 m := by rw [← hm]; rfl
  refine wpListIn_plain hg fun K hK' => ?_
  obtain ⟨v', w', hrun, r1, r2, _⟩ := Lib.run_append_own_string (P := Try.prog) w base 28 9 o.type 5 i0 Try.underlying28 Try.underlying9 hi hz0 hz1 hz2 v l.length (enc8 l) hown str (by unfold maxLen; omega) (by omega) hbase
  unfold Oper.wpIn
  refine ⟨?_, ?_⟩
  · simp [Oper.about, hop, resolve, Target.leads, Sem.run_pure]
  · rw [Oper.semAt_plain F _ _ (by rw [hop]; intro c hc'; cases hc')]
    simp [execOp, hop, resolve, invoke, builtin, hs, hx, hrun, Result.andThen]
    refine hK' _ _ (hK v' w' ?_ r2)
    unfold OB
    rw [enc8_append, List.length_append, ← hsc, ← hsz]
    exact r1
theorem ownsRow_keepOn {n₀ base : Nat} {D : Nat → Prop} {W W' : World} {e : TypeId} {size : Nat} {v : Value} {k : Nat} {xs : List Value} (h : W.ownsRow base e size v k xs) (hk : KeepOn n₀ D W W') (hd : ∀ r, v.ownBlock = some r → D r) : W'.ownsRow base e size v k xs := by
  obtain ⟨hl, h⟩ := h
  refine ⟨hl, ?_⟩
  rcases h with h | ⟨g, cap, cur, rfl, hb, hg, r⟩
  · exact .inl h
  · exact .inr ⟨g, cap, cur, rfl, hb, (hk.block g (Array.getElem?_eq_some_iff.1 hg).1 (.inr (hd g rfl))).trans hg, r⟩
theorem belowK_bD {n₀ : Nat} {w W : World} (h : Below n₀ w W) (dk : Nat) (o : Obj) (hn : n₀ ≤ dk) : Below n₀ w (W.putObj dk o) :=
  h.trans ⟨rfl, rfl, rfl, by simp [World.putObj], fun k hk => World.putObj_heap_other (by omega)⟩
theorem stepR_scope {P : Program} {b : Frame} {a : Act} {k : List Item} {cs : List Frame} {w : World} {c : Code} : step P (lone (b.atR a (.code (.scope c) :: k)) cs w) = .next (lone (b.atR a (.code c :: .inScope c :: k)) cs w) :=
  step_lone_go (by simp [stepG, stepG.exec, Frame.atR])
theorem stepR_inScope {P : Program} {b : Frame} {a : Act} {k : List Item} {cs : List Frame} {w : World} {c : Code} : step P (lone (b.atR a (.inScope c :: k)) cs w) = .next (lone (b.atR a k) cs w) :=
  step_lone_go (by simp [stepG, stepG.exec, Frame.atR])
/-- a body with labels that nobody jumps to, inside a fence -/
theorem wpIn_scope_none {F : Fence} {n : Nat} {P : Program} {Q : Exit → Act → World → Prop} {a : Act} {w : World} {c : Code} (hg : ∀ l a w, ¬ Q (.goto l) a w) (h : c.wpIn F n P Q a w) : (Code.scope c).wpIn F n P Q a w := by
  intro b k cs hro hb hr
  have h0 : (lone (b.atR a (.code (.scope c) :: k)) cs w).fenced P F := fenced_calm hb hr rfl
  obtain ⟨e, a₁, w₁, hq, harr⟩ := h b (.inScope c :: k) cs hro hb hr
  cases e with
  | normal => exact ⟨.normal, a₁, w₁, hq, .head h0 stepR_scope (StepsIn.trans harr (.one (fenced_calm hb hr rfl) stepR_inScope))⟩
  | exit id =>
    have hx : exitTo id (.inScope c :: k) = exitTo id k := by simp [exitTo]
    exact ⟨.exit id, a₁, w₁, hq, fun k' hk => .head h0 stepR_scope (harr.1 k' (by rw [hx]; exact hk)),
      fun hr' hk => let ⟨k₁, h1, h2⟩ := harr.2 hr' (by rw [hx]; exact hk); ⟨k₁, h1, .head h0 stepR_scope h2⟩⟩
  | goto l => exact absurd hq (hg l a₁ w₁)
  | ret => exact ⟨_, a₁, w₁, hq, .of_steps (.one h0 stepR_scope) harr⟩
  | panic ch => exact ⟨_, a₁, w₁, hq, .of_steps (.one h0 stepR_scope) harr⟩
  | outgrown => exact ⟨_, a₁, w₁, hq, .of_steps (.one h0 stepR_scope) harr⟩
theorem cell_below {w w' : World} {p : Addr} {v : Value} (h : w.cell? p = some v) (hb : Below w.heap.size w w') : w'.cell? p = some v := (hb.cell (World.block_lt_of_cell? w _ h)).trans h
theorem boxed_set_other {W : World} {B B' : Nat} {t : TypeId} {v u : Value} (h : Boxed W B t v) (hne : B ≠ B') : Boxed (W.setCell ⟨B', 0, none⟩ u) B t v :=
  (heap_setCell_other W ⟨B', 0, none⟩ B u hne).trans h
theorem size_set (W : World) (a : Addr) (u : Value) : (W.setCell a u).heap.size = W.heap.size := by simp [World.setCell]
theorem SB_put {W : World} {v : Value} {l : List UInt8} {dk : Nat} {o' : Obj} (h : SB W v l) (hk : W.heap[dk]? = some (.deferred (some []))) : SB (W.putObj dk o') v l := by
  by_cases h0 : 0 < l.length
  · obtain ⟨A, c, rfl, h1, h2, h3⟩ := h.form
    obtain ⟨g, o1, rfl, hc⟩ := h3 h0
    refine .inr ⟨_, c, rfl, h1, h2, fun _ => ⟨g, o1, rfl, fun i hi => ?_⟩⟩
    have hne : g ≠ dk := by
      rintro rfl
      have := hc 0 h0
      simp [World.cell?, hk] at this
    rw [← hc i hi]
    have he := World.putObj_heap_other (w := W) (o := o') hne
    simp [World.cell?, he]
  · exact h.empty (by omega) _
/-- texts of the call's own -/
def OT (W : World) (base : Nat) (v : Value) (ss : List (List UInt8)) : Prop := W.ownsRow base 9 1 v ss.length (ss.map encStr)
/-- a slice of texts -/
def TS (W : World) (v : Value) (ss : List (List UInt8)) : Prop := ∃ A c, v = .slice A ss.length c ∧ (ss.length ≤ c ∧ c ≤ 9223372036854775807) ∧ ∀ i (h : i < ss.length), ∃ g o, A = some ⟨g, o, none⟩ ∧ W.cell? ⟨g, o + i, none⟩ = some (encStr ss[i])
theorem TS.below {W W' : World} {v : Value} {l : List (List UInt8)} (h : TS W v l) (hb : Below W.heap.size W W') : TS W' v l := by
  obtain ⟨A, c, rfl, h1, h2⟩ := h
  refine ⟨A, c, rfl, h1, fun i hi => ?_⟩
  obtain ⟨g, o, e, hc⟩ := h2 i hi
  exact ⟨g, o, e, (hb.cell (p := ⟨g, o + i, none⟩) (World.block_lt_of_cell? W _ hc)).trans hc⟩
theorem infoStr : (Try.prog.info? 9).map (fun i => (i.zero, i.size, i.bytes)) = some (some (.string ⟨#[]⟩), 1, 16) := by kernel_rfl
theorem OT.nil (W : World) (base : Nat) : OT W base (.slice none 0 0) [] := World.ownsRow_nil _ _ _ _
theorem OT.mono {W : World} {B B' : Nat} {v : Value} {l : List (List UInt8)} (h : OT W B v l) (hb : B' ≤ B) : OT W B' v l := by
  obtain ⟨h1, h2⟩ := h
  refine ⟨h1, ?_⟩
  rcases h2 with h | ⟨g, cap, cur, e, hg, r⟩
  · exact .inl h
  · exact .inr ⟨g, cap, cur, e, by omega, r⟩
theorem OT.below {W W' : World} {B : Nat} {v : Value} {l : List (List UInt8)} (h : OT W B v l) (hb : Below W.heap.size W W') : OT W' B v l :=
  h.kept (row := none) ⟨hb.os, hb.tape, hb.output, hb.size, fun k hk _ => hb.block k hk⟩ (by cases v.ownBlock <;> simp)
theorem OT.alloc {W : World} {B : Nat} {v : Value} {l : List (List UInt8)} (h : OT W B v l) (o : Obj) : OT (W.alloc o) B v l := h.below ((Below.refl W.heap.size W).alloc (Nat.le_refl _) o)
theorem OT.reads {W : World} {base : Nat} {v : Value} {ss : List (List UInt8)} (h : OT W base v ss) : TS W v ss := by
  obtain ⟨hl, h⟩ := h
  rcases h with ⟨rfl, h0⟩ | ⟨g, cap, cur, rfl, hb, hg, hc, hm, hs', ht⟩
  · obtain rfl : ss = [] := List.length_eq_zero_iff.1 h0
    exact ⟨none, 0, rfl, by simp, fun i h => by simp at h⟩
  · refine ⟨_, cap, rfl, by unfold maxLen at hm; omega, fun i hi => ⟨g, 0, rfl, ?_⟩⟩
    have e : (cur.toList.take (ss.length * 1))[i]? = (ss.map encStr)[i]? := by rw [ht]
    rw [List.getElem?_take_of_lt (by omega)] at e
    simp only [World.cell?, hg, Nat.zero_add]
    rw [List.getElem?_map, List.getElem?_eq_getElem hi] at e
    simpa using e
theorem encStr_one (m : List (List UInt8)) : ∀ u ∈ m.map encStr, u.oneCell' = true := by
  intro u hu
  obtain ⟨x, _, rfl⟩ := List.mem_map.1 hu
  rfl
theorem TS.news {W : World} {A : Option Addr} {k c : Nat} {m : List (List UInt8)} (h : TS W (.slice A k c) m) (h0 : 0 < m.length) : k = m.length ∧ ∃ ad, A = some ad ∧ ∀ j u, (m.map encStr)[j]? = some u → W.cell? (ad.add j) = some u := by
  obtain ⟨A', c', e, h1, h2⟩ := h
  cases e
  obtain ⟨g, o, rfl, -⟩ := h2 0 h0
  refine ⟨rfl, _, rfl, fun j u hj => ?_⟩
  have hj' : j < m.length := by have := (List.getElem?_eq_some_iff.1 hj).1; simpa using this
  obtain ⟨g', o', e, hc⟩ := h2 j hj'
  cases e
  rw [List.getElem?_map, List.getElem?_eq_getElem hj'] at hj
  cases hj
  rw [add_pl]
  exact hc
theorem runT_append {w : World} (ty : TypeId) (base : Nat) (v xv : Value) (ss m : List (List UInt8)) (hown : OT w base v ss) (hm : TS w xv m) (h0 : 0 < m.length) (hlen : ss.length + m.length ≤ 1000000) (hbase : base ≤ w.heap.size) :
    ∃ v' w', (Builtin.append_ #[49, 49] ty #[v, xv]).run Try.prog w = .ok v' w' ∧ OT w' base v' (ss ++ m) ∧ w.grownBy w' v.ownBlock ∧ Below base w w' := by
  obtain ⟨i0, hi, hz0, hz1, hz2⟩ := info_parts infoStr
  obtain ⟨A, c, rfl, -, -⟩ := id hm
  obtain ⟨-, ad, rfl, hc⟩ := hm.news h0
  obtain ⟨v', w', hr, hown', hgrow, _⟩ := run_append_own (P := Try.prog) w base 49 ty 9 i0 _ 1 16 Try.underlying49 hi hz0 hz1 hz2 rfl (by decide) v ss.length _ hown ad m.length c (m.map encStr) (by simp) hc (encStr_one m) (by unfold maxLen; omega) (by omega) hbase
  refine ⟨v', w', hr, ?_, hgrow, (Below.refl base w).grown hgrow hbase (fun k hk => (hown.lt k hk).1)⟩
  unfold OT
  rw [List.map_append, List.length_append]
  exact hown'
theorem wpT_append {w : World} {ops : Array Oper} {rest : List Oper} {o : Oper} {a : Act} {Q : Exit → Act → World → Prop} (hgd : o.guard = none) (s x : Operand)
    (ho : o.op = .call { callee := .builtin .append, args := #[s, x], argTypes := #[49, 49] })
    (base : Nat) (v xv : Value) (ss m : List (List UInt8)) (hs : a.eval s = v) (hown : OT w base v ss) (hx : a.eval x = xv) (hm : TS w xv m) (h0 : 0 < m.length) (hlen : ss.length + m.length ≤ 1000000) (hbase : base ≤ w.heap.size)
    (h : ∀ v' w', OT w' base v' (ss ++ m) → w.grownBy w' v.ownBlock → Below base w w' → wpList Try.prog ops Q rest (a.put o.dst v') w') : wpList Try.prog ops Q (o :: rest) a w := by
  refine wpList_plain hgd fun K hK => ?_
  obtain ⟨v', w', hrun, h1, h2, h3⟩ := runT_append o.type base v xv ss m hown hm h0 hlen hbase
  unfold Oper.wp
  simp [execOp, ho, resolve, invoke, builtin, hs, hx, hrun, Result.andThen]
  exact hK _ _ (h v' w' h1 h2 h3)
/-- append(own, texts...) inside a fence -/
theorem wpTI_append {F : Fence} {n : Nat} {w : World} {ops : Array Oper} {rest : List Oper} {o : Oper} {a : Act} {Q : Exit → Act → World → Prop}
    (hg : o.guard = none) (s x : Operand) (hop : o.op = Op.call { callee := Callee.builtin Builtin.append, args := #[s, x], argTypes := #[49, 49] })
    (base : Nat) (v xv : Value) (l m : List (List UInt8)) (hs : a.eval s = v) (hown : OT w base v l) (hx : a.eval x = xv) (hm : TS w xv m) (h0 : 0 < m.length) (hlen : l.length + m.length ≤ 1000000) (hbase : base ≤ w.heap.size)
    (hK : ∀ v' w', OT w' base v' (l ++ m) → w.grownBy w' v.ownBlock → (∀ r, v'.ownBlock = some r → v.ownBlock = some r ∨ r = w.heap.size) → wpListIn F n Try.prog ops Q rest (a.put o.dst v') w') :
    wpListIn F n Try.prog ops Q (o :: rest) a w := by
  obtain ⟨i0, hi, hz0, hz1, hz2⟩ := info_parts infoStr
  obtain ⟨A, c, rfl, -, -⟩ := id hm
  obtain ⟨-, ad, rfl, hc⟩ := hm.news h0
  refine wpListIn_append_lies w hg s x 49 hop base 9 i0 (.string ⟨#[]⟩) 1 16 Try.underlying49 hi hz0 hz1 hz2 rfl (by decide) v l.length (l.map encStr) hs hown ad m.length c (m.map encStr) hx (by simp) hc (encStr_one m) h0 (by unfold maxLen; omega) (by omega) hbase ?_
  intro g' cap w' r1 r2 r3
  refine hK _ _ ?_ r2 (fun r hr => ?_)
  · unfold OT
    rw [List.map_append, List.length_append]
    exact r1
  · have : g' = r := by simpa [Value.ownBlock] using hr
    subst this
    exact r3
/-- '[]string{s}' -/
theorem TS_lit (w : World) (s : List UInt8) : TS (w.alloc (.cells #[encStr s] 9)) (.slice (some ⟨w.heap.size, 0, none⟩) 1 1) [s] := by
  refine ⟨_, 1, rfl, by simp, fun i hi => ⟨_, 0, rfl, ?_⟩⟩
  obtain rfl : i = 0 := by simpa using hi
  simp
theorem take_snoc (ws : List (List UInt8)) (k : Nat) (x : List UInt8) (h : ws[k]? = some x) : ws.take (k + 1) = ws.take k ++ [x] := by
  have hk : k < ws.length := (List.getElem?_eq_some_iff.1 h).1
  rw [List.getElem?_eq_getElem hk] at h
  cases h
  exact List.take_succ_eq_append_getElem hk
end Go.Proofs.Ytbcnalabalegfaa

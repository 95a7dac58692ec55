/- Bytes and lists in memory: how slices read, slices of the call's own, appends. -/
import Derived.RangeFuncNested
import Derived.RangeFuncBound
import Derived.RangeFuncCalls
import Derived.RangeFuncLeaves
import Derived.Shelf.Abstract
import Derived.Shelf.RegionOpen
import Derived.WalkKit
import Derived.OwnWalkIn
import Derived.TacticsInMore
import Derived.LoopNIn
import Derived.LoopIn
import Derived.Outline
import Derived.Lib.Hide
import Derived.Lib.SliceRun
import Derived.IntWalk
import Derived.WalkLawsBesides
import Derived.WalkSpells
import Derived.Laws.BitsAllLaws
import Derived.Lib.ConvBytes
import Derived.Maps.AppendAt
import Derived.Lib.AppendStr
import Derived.Lib.SlBytesConst
import Derived.Laws.AppendOwnNone
import Derived.Laws.OwnMore
import Derived.Laws.BytesArg
import Derived.Deep.RegionHeld3
import Derived.BigQuiet
import Derived.Deep.RegionLaw
import Derived.Deep.QuietTactic
import Derived.Test.YtbcnalabalegfaaProg
import Derived.ProofKit
import Derived.OpenShut
import Derived.Deep.Slices
set_option linter.unusedVariables false
set_option linter.unusedSimpArgs false
namespace Go.Proofs.Ytbcnalabalegfaa
open Go Go.RowKit Go.Shelf

/-- byte i as a number -/
def gb (l : List UInt8) (i : Nat) : Nat := (l[i]?.getD 0).toNat
theorem gb_lt (l : List UInt8) (k : Nat) : (gb l k : Int) < 256 := by unfold gb; have := (l[k]?.getD 0).toNat_lt; omega

/-- A VALUE IS A SLICE THAT READS AS THESE BYTES. -/
def SB (W : World) (v : Value) (l : List UInt8) : Prop :=
  (v = .slice none 0 0 ∧ l = []) ∨
  ∃ ad c, v = .slice (some ad) l.length c ∧ l.length ≤ c ∧ c ≤ 9223372036854775807 ∧ (0 < l.length → ∃ g o, ad = ⟨g, o, none⟩ ∧ ∀ i, i < l.length → W.cell? ⟨g, o + i, none⟩ = some (.int .u8 (gb l i)))

theorem SB.form {W : World} {v : Value} {l : List UInt8} (h : SB W v l) :
    ∃ A c, v = .slice A l.length c ∧ l.length ≤ c ∧ c ≤ 9223372036854775807 ∧ (0 < l.length → ∃ g o, A = some ⟨g, o, none⟩ ∧ ∀ i, i < l.length → W.cell? ⟨g, o + i, none⟩ = some (.int .u8 (gb l i))) := by
  rcases h with ⟨rfl, rfl⟩ | ⟨ad, c, rfl, h1, h2, h3⟩
  · exact ⟨none, 0, rfl, by simp, by omega, fun h => by simp at h⟩
  · exact ⟨some ad, c, rfl, h1, h2, fun h => by obtain ⟨g, o, rfl, hc⟩ := h3 h; exact ⟨g, o, rfl, hc⟩⟩

theorem SB.below {W W' : World} {v : Value} {l : List UInt8} (h : SB W v l) (hb : Below W.heap.size W W') : SB W' v l := by
  rcases h with ⟨rfl, rfl⟩ | ⟨ad, c, rfl, h1, h2, h3⟩
  · exact .inl ⟨rfl, rfl⟩
  · refine .inr ⟨ad, c, rfl, h1, h2, fun h0 => ?_⟩
    obtain ⟨g, o, rfl, hc⟩ := h3 h0
    exact ⟨g, o, rfl, fun i hi => (hb.cell (p := ⟨g, o + i, none⟩) (World.block_lt_of_cell? W _ (hc i hi))).trans (hc i hi)⟩

theorem ret_u32 {a b : Int} (h : a = b) : Ending.returned (.int .u32 a) = .returned (.int .u32 b) := by rw [h]
theorem val_u32 {a b : Int} (h : a = b) : Value.int .u32 a = .int .u32 b := by rw [h]

/-- bytes as cells -/
def enc8 (l : List UInt8) : List Value := l.map fun b => .int .u8 (b.toNat : Int)
theorem enc8_len (l : List UInt8) : (enc8 l).length = l.length := by simp [enc8]
theorem enc8_append (a b : List UInt8) : enc8 (a ++ b) = enc8 a ++ enc8 b := by simp [enc8]
theorem enc8_get (l : List UInt8) (i : Nat) (h : i < l.length) : (enc8 l)[i]? = some (.int .u8 (gb l i)) := by
  simp [enc8, gb, h]
theorem enc8_one (l : List UInt8) : ∀ u ∈ enc8 l, u.oneCell' = true := by
  intro u hu
  obtain ⟨b, _, rfl⟩ := List.mem_map.1 hu
  rfl

/-- A SLICE OF THE CALL's OWN (block from base on) THAT HOLDS THESE BYTES. -/
def OB (W : World) (base : Nat) (v : Value) (l : List UInt8) : Prop := W.ownsRow base 5 1 v l.length (enc8 l)

theorem info5 : (Try.prog.info? 5).map (fun i => (i.zero, i.size, i.bytes)) = some (some (.int .u8 0), 1, 1) := by kernel_rfl

theorem OB.reads {W : World} {base : Nat} {v : Value} {l : List UInt8} (h : OB W base v l) : SB W v l := by
  obtain ⟨hl, h⟩ := h
  rcases h with ⟨rfl, h0⟩ | ⟨g, cap, cur, rfl, hb, hg, hc, hm, hs, ht⟩
  · exact .inl ⟨rfl, List.length_eq_zero_iff.1 h0⟩
  · refine .inr ⟨_, cap, rfl, hc, by unfold maxLen at hm; omega, fun h0 => ⟨g, 0, rfl, fun i hi => ?_⟩⟩
    have e := enc8_get l i hi
    rw [← ht] at e
    simp only [Nat.mul_one] at e
    rw [List.getElem?_take_of_lt (by omega)] at e
    simp only [World.cell?, hg, Nat.zero_add]
    simpa using e

/-- append(own, bytes...) -/
theorem runB_append {w : World} (ty : TypeId) (base : Nat) (v xv : Value) (l m : List UInt8) (hown : OB w base v l) (hm : SB w xv m) (hlen : l.length + m.length ≤ 140737488355328) (hbase : base ≤ w.heap.size) :
    ∃ v' w', (Builtin.append_ #[28, 28] ty #[v, xv]).run Try.prog w = .ok v' w' ∧ OB w' base v' (l ++ m) ∧ w.grownBy w' v.ownBlock ∧ Below base w w' := by
  obtain ⟨i0, hi, hz0, hz1, hz2⟩ := info_parts info5
  rcases hm with ⟨rfl, rfl⟩ | ⟨ad, c, rfl, h1, h2, h3⟩
  · exact ⟨v, w, run_append_owned_none (P := Try.prog) (w := w) base 28 ty 5 i0 1 Try.underlying28 hi v l.length (enc8 l) hown, by simpa using hown, ⟨rfl, rfl, rfl, Nat.le_refl _, fun _ _ _ => rfl⟩, Below.refl _ _⟩
  · obtain ⟨v', w', hr, hown', hgrow, _⟩ := run_append_own (P := Try.prog) w base 28 ty 5 i0 (.int .u8 0) 1 1 Try.underlying28 hi hz0 hz1 hz2 rfl (by decide) v l.length (enc8 l) hown ad m.length c (enc8 m) (by simp [enc8]) (by
      intro j u hj
      have hj' : j < m.length := by have := (List.getElem?_eq_some_iff.1 hj).1; simpa [enc8] using this
      obtain ⟨g, o, rfl, hc⟩ := h3 (by omega)
      rw [enc8_get m j hj'] at hj
      cases hj
      have := hc j hj'
      unfold Addr.add
      split
      · rename_i e; subst e; simpa using this
      · simpa using this) (enc8_one m) (by unfold maxLen; omega) (by omega) hbase
    refine ⟨v', w', hr, ?_, hgrow, (Below.refl base w).grown hgrow hbase (fun k hk => (hown.lt k hk).1)⟩
    have : l.length + m.length = (l ++ m).length := by simp
    unfold OB
    rw [enc8_append, ← this]
    exact hown'
theorem wpB_append {w : World} {ops : Array Oper} {rest : List Oper} {o : Oper} {a : Act} {Q : Exit → Act → World → Prop} (hgd : o.guard = none) (s x : Operand)
    (ho : o.op = .call { callee := .builtin .append, args := #[s, x], argTypes := #[28, 28] })
    (base : Nat) (v xv : Value) (l m : List UInt8) (hs : a.eval s = v) (hown : OB w base v l) (hx : a.eval x = xv) (hm : SB w xv m) (hlen : l.length + m.length ≤ 140737488355328) (hbase : base ≤ w.heap.size)
    (h : ∀ v' w', OB w' base v' (l ++ m) → w.grownBy w' v.ownBlock → Below base w w' → wpList Try.prog ops Q rest (a.put o.dst v') w') : wpList Try.prog ops Q (o :: rest) a w := by
  refine wpList_plain hgd fun K hK => ?_
  obtain ⟨v', w', hrun, h1, h2, h3⟩ := runB_append o.type base v xv l m hown hm hlen hbase
  unfold Oper.wp
  simp [execOp, ho, resolve, invoke, builtin, hs, hx, hrun, Result.andThen]
  exact hK _ _ (h v' w' h1 h2 h3)
theorem stepB_append {w : World} {ops : Array Oper} {o : Oper} {a : Act} {K : Act → World → Prop} {Q : Exit → Act → World → Prop} {E : Prop} (hgd : o.guard = none) (s x : Operand)
    (ho : o.op = .call { callee := .builtin .append, args := #[s, x], argTypes := #[28, 28] })
    (base : Nat) (v xv : Value) (l m : List UInt8) (hs : a.eval s = v) (hown : OB w base v l) (hx : a.eval x = xv) (hm : SB w xv m) (hlen : l.length + m.length ≤ 140737488355328) (hbase : base ≤ w.heap.size)
    (h : ∀ v' w', OB w' base v' (l ++ m) → w.grownBy w' v.ownBlock → Below base w w' → K (a.put o.dst v') w') : if Region.wanted o (yielded ops a.tmps) = true then Oper.wp Try.prog o a w K Q else E := by
  have hw : Region.wanted o (yielded ops a.tmps) = true := by simp [Region.wanted, hgd]
  rw [if_pos hw]
  obtain ⟨v', w', hrun, h1, h2, h3⟩ := runB_append o.type base v xv l m hown hm hlen hbase
  unfold Oper.wp
  simp [execOp, ho, resolve, invoke, builtin, hs, hx, hrun, Result.andThen]
  exact h v' w' h1 h2 h3

theorem OB.mono {W : World} {B B' : Nat} {v : Value} {l : List UInt8} (h : OB W B v l) (hb : B' ≤ B) : OB W B' v l := by
  obtain ⟨h1, h2⟩ := h
  refine ⟨h1, ?_⟩
  rcases h2 with h | ⟨g, cap, cur, e, hg, r⟩
  · exact .inl h
  · exact .inr ⟨g, cap, cur, e, by omega, r⟩

theorem OB.below {W W' : World} {B : Nat} {v : Value} {l : List UInt8} (h : OB W B v l) (hb : Below W.heap.size W W') : OB W' B v l :=
  h.kept (row := none) ⟨hb.os, hb.tape, hb.output, hb.size, fun k hk _ => hb.block k hk⟩ (by cases v.ownBlock <;> simp)

theorem OB_lit (w : World) (cs : Array Value) (l : List UInt8) (hl : l.length ≤ 100000000) (h : cs.toList = enc8 l) : OB (w.alloc (.cells cs 5)) w.heap.size (.slice (some ⟨w.heap.size, 0, none⟩) l.length l.length) l := by
  have hs : cs.size = l.length := by rw [← Array.length_toList, h, enc8_len]
  refine ⟨by rw [enc8_len]; simp, .inr ⟨w.heap.size, l.length, cs, rfl, Nat.le_refl _, World.alloc_heap_new w _, Nat.le_refl _, ?_, by simpa using hs, ?_⟩⟩
  · unfold maxLen; omega
  · rw [Nat.mul_one, h, List.take_of_length_le (by rw [enc8_len]; omega)]

/-- A VALUE IS A SLICE OF SLICES THAT READS AS THESE LISTS OF BYTES. -/
def SS (W : World) (v : Value) (ls : List (List UInt8)) : Prop :=
  (v = .slice none 0 0 ∧ ls = []) ∨
  ∃ ad c, v = .slice (some ad) ls.length c ∧ (ls.length ≤ c ∧ c ≤ 9223372036854775807) ∧ (0 < ls.length → ∃ g o, ad = ⟨g, o, none⟩ ∧ ∀ i, i < ls.length → ∃ u, W.cell? ⟨g, o + i, none⟩ = some u ∧ SB W u (ls[i]?.getD []))
theorem SS.form {W : World} {v : Value} {ls : List (List UInt8)} (h : SS W v ls) :
    ∃ A c, v = .slice A ls.length c ∧ (ls.length ≤ c ∧ c ≤ 9223372036854775807) ∧ (0 < ls.length → ∃ g o, A = some ⟨g, o, none⟩ ∧ ∀ i, i < ls.length → ∃ u, W.cell? ⟨g, o + i, none⟩ = some u ∧ SB W u (ls[i]?.getD [])) := by
  rcases h with ⟨rfl, rfl⟩ | ⟨ad, c, rfl, h1, h3⟩
  · exact ⟨none, 0, rfl, by simp, fun h => by simp at h⟩
  · exact ⟨some ad, c, rfl, h1, fun h => by obtain ⟨g, o, rfl, hc⟩ := h3 h; exact ⟨g, o, rfl, hc⟩⟩

/-- a slice as a string -/
theorem SB.str {W : World} {v : Value} {l : List UInt8} (h : SB W v l) : (convert 28 9 v).run Try.prog W = .ok (.string ⟨l.toArray⟩) W := by
  rcases h with ⟨rfl, rfl⟩ | ⟨ad, c, rfl, h1, h2, h3⟩
  · exact run_convert_bytes_nil W 28 5 Try.underlying28 Try.underlying5 0 0 9 Try.underlying9
  · cases l with
    | nil =>
      rw [run_convert_bytes_string W 28 9 5 _ _ c Try.underlying28 Try.underlying5 Try.underlying9, List.length_nil, run_bytesToString W ad 0 c [] (by
        have := run_loadCells_list (P := Try.prog) W ad [] (fun j v hj => by simp at hj)
        simpa using this)]
      rfl
    | cons x l =>
      obtain ⟨g, o, rfl, hc⟩ := h3 (by simp)
      rw [run_convert_bytes_arg W 28 5 Try.underlying28 Try.underlying5 g o _ c ((x :: l).map fun b => (b.toNat : Int)) (by simp) (fun i hi => by
        rw [hc i hi, List.getD, List.getElem?_map]
        simp only [gb]
        rw [List.getElem?_eq_getElem hi]
        rfl) 9 Try.underlying9]
      have : strOfNums ((x :: l).map fun b => (b.toNat : Int)) = ⟨(x :: l).toArray⟩ := by
        unfold strOfNums
        congr 2
        rw [List.map_map]
        conv => rhs; rw [← List.map_id (x :: l)]
        exact List.map_congr_left fun b _ => by simp
      rw [this]

/-- a text's bytes: the block bears a mark -/
theorem SB_mark (w : World) (cs : Array Value) (l : List UInt8) (n : Nat) (m : Nat × Nat) (hn : n = l.length) (hl : l.length ≤ 100000000) (h : cs.toList = enc8 l) :
    SB (w.alloc (.cells cs 5 m)) (.slice (some ⟨w.heap.size, 0, none⟩) n n) l := by
  subst hn
  refine .inr ⟨_, l.length, rfl, Nat.le_refl _, by omega, fun _ => ⟨w.heap.size, 0, rfl, fun i hi => ?_⟩⟩
  have e := enc8_get l i hi
  rw [← h] at e
  simp only [World.cell?, World.alloc_heap_new, Nat.zero_add]
  simpa using e

theorem gb_take (l : List UInt8) (n k : Nat) (h : k < n) : gb (l.take n) k = gb l k := by unfold gb; rw [List.getElem?_take_of_lt h]
theorem gb_drop (l : List UInt8) (n k : Nat) : gb (l.drop n) k = gb l (n + k) := by unfold gb; rw [List.getElem?_drop]

theorem SB.take {W : World} {A : Option Addr} {n c : Nat} {l : List UInt8} (h : SB W (.slice A n c) l) (m : Nat) (hm : m ≤ l.length) (h0 : 0 < c ∨ True) : SB W (.slice A m c) (l.take m) := by
  have hml : (l.take m).length = m := by simp; omega
  rcases h with ⟨he, rfl⟩ | ⟨ad, c', he, h1, h2, h3⟩
  · cases he
    obtain rfl : m = 0 := by simpa using hm
    exact .inl ⟨rfl, by simp⟩
  · cases he
    refine .inr ⟨ad, c, by rw [hml], by omega, h2, fun h0 => ?_⟩
    obtain ⟨g, o, rfl, hc⟩ := h3 (by omega)
    exact ⟨g, o, rfl, fun i hi => by rw [hc i (by omega), gb_take _ _ _ (by omega)]⟩

theorem below_drewN {B : Nat} {w W : World} (h : Below B w W) (n : Nat) : Below B w (W.drewN n) := ⟨h.os, h.tape, h.output, h.size, h.block⟩

theorem quiet_left {P : Program} {f : FuncId} {args : Array Value} {w : World} {n : Nat} {v : Value}
    (h : Calls P f args (w.drewN n) fun e w' => e = .returned v ∧ w.drewN n = w') : Calls P f args (w.drewN n) fun e w'' => e = .returned v ∧ ∃ m, w'' = w.drewN m :=
  h.mono fun _ _ ⟨he, hm⟩ => ⟨he, n, hm.symm⟩
open Go.ChangeShapes Go.WideShapes Go.ChangeAt in
theorem Open.cells_bytes {H : Type} {enc : TypeId × Value → H} {W : World} {fuel : Nat} {v : Value} {x : DataW H × List MemPlace}
    (h : DataW.trod enc Try.prog W 0 (fun _ => true) true fuel 28 [v] = some x) : ∃ l, SB W v l := by
  rcases open_ints Try.underlying28 Try.underlying5 (by kernel_rfl) h with ⟨hcs, _⟩ | ⟨a, len, c, zs, hcs, _, hl, hm, hz, _, hcell, hwz⟩
  · simp at hcs
    exact ⟨[], .inl ⟨hcs, rfl⟩⟩
  · simp at hcs
    subst hcs
    have hz' : zs.length = c := by simpa using hz
    have hlen : ((zs.take len).map fun n => UInt8.ofNat n.toNat).length = len := by simp; omega
    refine ⟨(zs.take len).map fun n => UInt8.ofNat n.toNat, .inr ⟨a, c, by rw [hlen], by omega, by unfold maxLen at hm; omega, fun h0 => ?_⟩⟩
    rw [hlen] at h0
    obtain ⟨b, off, rfl, hc⟩ := ints_at hcell (by omega)
    refine ⟨b, off, rfl, fun i hi => ?_⟩
    rw [hlen] at hi
    have hci := hcell i (by omega)
    have hplain : (⟨b, off, none⟩ : Addr).add i = ⟨b, off + i, none⟩ := by unfold Addr.add; split <;> simp_all
    rw [hplain] at hci
    rw [hci]
    have hw := hwz (zs.getD i 0) (by rw [List.getD, List.getElem?_eq_getElem (show i < zs.length by omega)]; exact List.getElem_mem _)
    have hb := bounds_u8 hw
    unfold gb
    have e : ((zs.take len).map fun n => UInt8.ofNat n.toNat)[i]? = some (UInt8.ofNat (zs.getD i 0).toNat) := by
      rw [List.getElem?_map, List.getElem?_take_of_lt hi, List.getElem?_eq_getElem (show i < zs.length by omega), List.getD, List.getElem?_eq_getElem (show i < zs.length by omega)]
      rfl
    rw [e]
    simp only [Option.getD_some]
    congr 2
    rw [UInt8.toNat_ofNat']
    omega

open Go.ChangeShapes Go.WideShapes Go.ChangeAt in
set_option maxRecDepth 100000 in
theorem Open.bytes {H : Type} {enc : TypeId × Value → H} {W : World} {b0 : Nat} {v : Value} {d : DataW H} {p : List MemPlace} (hv : Value.okWide Try.prog W .any b0 28 v)
    (h : DataW.Trod enc Try.prog W 0 (fun _ => true) true 28 v d p) : ∃ l, SB W v l := by
  obtain ⟨a0, len0, cap0, rfl⟩ := okWide_slice Try.underlying28 hv
  obtain ⟨fuel, hf⟩ := h
  exact Open.cells_bytes (by simpa [Value.cells] using hf)

/-! lists of values of one cell -/
/-- a slice that reads as these values -/
def SL (W : World) (v : Value) (l : List Value) : Prop := ∃ A c, v = .slice A l.length c ∧ (l.length ≤ c ∧ c ≤ 9223372036854775807) ∧ ∀ i, i < l.length → ∃ g o, A = some ⟨g, o, none⟩ ∧ W.cell? ⟨g, o + i, none⟩ = l[i]?
theorem SL.below {W W' : World} {v : Value} {l : List Value} (h : SL W v l) (hb : Below W.heap.size W W') : SL W' v l := by
  obtain ⟨A, c, rfl, h1, h2⟩ := h
  refine ⟨A, c, rfl, h1, fun i hi => ?_⟩
  obtain ⟨g, o, e, hc⟩ := h2 i hi
  rw [List.getElem?_eq_getElem hi] at hc ⊢
  exact ⟨g, o, e, (hb.cell (p := ⟨g, o + i, none⟩) (World.block_lt_of_cell? W _ hc)).trans hc⟩
/-- a slice of the call's own -/
def OV (W : World) (base : Nat) (e : TypeId) (v : Value) (l : List Value) : Prop := W.ownsRow base e 1 v l.length l
theorem OV.reads {W : World} {base : Nat} {e : TypeId} {v : Value} {l : List Value} (h : OV W base e v l) : SL W v l := by
  obtain ⟨hl, h⟩ := h
  rcases h with ⟨rfl, h0⟩ | ⟨g, cap, cur, rfl, hb, hg, hc, hm, hs, ht⟩
  · exact ⟨none, 0, by rw [h0], by omega, fun i hi => by omega⟩
  · refine ⟨_, cap, rfl, by unfold maxLen at hm; omega, fun i hi => ⟨g, 0, rfl, ?_⟩⟩
    have e : (cur.toList.take (l.length * 1))[i]? = l[i]? := by rw [ht]
    rw [List.getElem?_take_of_lt (by omega)] at e
    simp only [World.cell?, hg, Nat.zero_add]
    simpa using e
theorem OV.mono {W : World} {B B' : Nat} {t : TypeId} {v : Value} {l : List Value} (h : OV W B t v l) (hb : B' ≤ B) : OV W B' t v l := by
  obtain ⟨h1, h2⟩ := h
  refine ⟨h1, ?_⟩
  rcases h2 with h | ⟨g, cap, cur, e, hg, r⟩
  · exact .inl h
  · exact .inr ⟨g, cap, cur, e, by omega, r⟩
theorem OV.nil (W : World) (base : Nat) (t : TypeId) : OV W base t (.slice none 0 0) [] := World.ownsRow_nil _ _ _ _
theorem OV.lit (w : World) (cs : Array Value) (t : TypeId) (l : List Value) (hl : l.length ≤ 100000000) (h : cs.toList = l) : OV (w.alloc (.cells cs t)) w.heap.size t (.slice (some ⟨w.heap.size, 0, none⟩) l.length l.length) l := by
  have hs : cs.size = l.length := by rw [← Array.length_toList, h]
  refine ⟨by simp, .inr ⟨w.heap.size, l.length, cs, rfl, Nat.le_refl _, World.alloc_heap_new w _, Nat.le_refl _, ?_, by simpa using hs, ?_⟩⟩
  · unfold maxLen; omega
  · rw [Nat.mul_one, h, List.take_of_length_le (by omega)]
/-! slices of slices of bytes -/
def cutA (A : Option Addr) (c lo : Nat) : Option Addr := if c = lo then A else A.map (·.add lo)

theorem size5 (w : World) : (sizeOf 5).run Try.prog w = .ok 1 w := by kernel_rfl

theorem elem22 : Try.prog.elem 28 = 5 := by kernel_rfl

theorem slice_run2 (A : Option Addr) (n c lo hi : Nat) (h1 : lo ≤ hi) (h2 : hi ≤ c) (i j : Int) (ei : i = lo) (ej : j = hi) (m d : Nat) (em : m = hi - lo) (ed : d = c - lo) (w : World) :
    (Instr.slice 28 (.slice A n c) (some (.int .i64 i)) (some (.int .i64 j)) none).run Try.prog w = .ok (.slice (cutA A c lo) m d) w := by
  subst ei ej em ed
  rw [run_slice_lh w 28 A n c (by rw [elem22]; exact Try.underlying28) .i64 .i64 lo hi (by omega) (by omega) (by omega), elem22, size5]
  simp [Result.andThen, sliced, cutA]
theorem slice_run1 (A : Option Addr) (n c lo : Nat) (h1 : lo ≤ n) (i : Int) (ei : i = lo) (m d : Nat) (em : m = n - lo) (ed : d = c - lo) (w : World) :
    (Instr.slice 28 (.slice A n c) (some (.int .i64 i)) none none).run Try.prog w = .ok (.slice (cutA A c lo) m d) w := by
  subst ei em ed
  rw [run_slice_l w 28 A n c (by rw [elem22]; exact Try.underlying28) .i64 lo (by omega) (by omega), elem22, size5]
  simp [Result.andThen, sliced, cutA]

theorem SB.cut {W : World} {A : Option Addr} {n c : Nat} {l : List UInt8} (h : SB W (.slice A n c) l) (lo m d : Nat) (h1 : lo + m ≤ l.length) (ed : d = c - lo) : SB W (.slice (cutA A c lo) m d) ((l.drop lo).take m) := by
  subst ed
  have hml : ((l.drop lo).take m).length = m := by simp; omega
  rcases h with ⟨he, rfl⟩ | ⟨ad, c', he, h1', h2, h3⟩
  · cases he
    simp at h1
    obtain ⟨rfl, rfl⟩ := h1
    exact .inl ⟨by simp [cutA], by simp⟩
  · cases he
    by_cases hc : c = lo
    · have : m = 0 := by omega
      subst this
      refine .inr ⟨ad, c - lo, by simp [cutA, hc], by simp, by omega, fun h0 => by simp at h0⟩
    · refine .inr ⟨ad.add lo, c - lo, by rw [hml]; simp [cutA, hc], by omega, by omega, fun h0 => ?_⟩
      obtain ⟨g, o, rfl, hcell⟩ := h3 (by omega)
      refine ⟨g, o + lo, by unfold Addr.add; split <;> simp_all, fun i hi => ?_⟩
      rw [hml] at hi
      rw [Nat.add_assoc, hcell (lo + i) (by omega), gb_take _ _ _ hi, gb_drop]
theorem SB.cut1 {W : World} {A : Option Addr} {n c : Nat} {l : List UInt8} (h : SB W (.slice A n c) l) (lo m d : Nat) (h1 : lo ≤ l.length) (em : m = l.length - lo) (ed : d = c - lo) : SB W (.slice (cutA A c lo) m d) (l.drop lo) := by
  have := h.cut lo m d (by omega) ed
  rwa [List.take_of_length_le (by simp; omega)] at this
theorem slice_runh (A : Option Addr) (n c hi : Nat) (h2 : hi ≤ c) (j : Int) (ej : j = hi) (w : World) :
    (Instr.slice 28 (.slice A n c) none (some (.int .i64 j)) none).run Try.prog w = .ok (.slice A hi c) w := by
  subst ej
  rw [run_slice_h w 28 A n c (by rw [elem22]; exact Try.underlying28) .i64 hi (by omega) (by omega), elem22, size5]
  cases A with
  | none => simp [Result.andThen, sliced]
  | some a =>
    have : a.add 0 = a := by unfold Addr.add; simp
    simp [Result.andThen, sliced, this]
/-- 'a[i]' of an array by value, elements of one cell -/
theorem run_index_array (t e : TypeId) (n : Nat) (l : List Value) (i : Nat) (v : Value) (h : Try.prog.underlying t = some (.array n e)) (hs : ∀ w, (sizeOf e).run Try.prog w = .ok 1 w) (ha : ∀ w, (isAgg e).run Try.prog w = .ok false w) (hn : l.length = n) (hi : l[i]? = some v) (w : World) :
    (Instr.index t (.agg l.toArray) (.int .i64 (i : Int))).run Try.prog w = .ok v w := by
  have hlt : i < n := by rw [← hn]; exact (List.getElem?_eq_some_iff.1 hi).1
  have hb : 0 ≤ (i : Int) ∧ (i : Int) < (n : Int) := by omega
  simp [Instr.index, run_underlying h, asIntOf, hb, go_sem, hs, ha]
  simp [hlt, hi]
end Go.Proofs.Ytbcnalabalegfaa

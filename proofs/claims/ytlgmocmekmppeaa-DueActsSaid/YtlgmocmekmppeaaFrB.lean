/- Records as bytes: little, Put, and the reference's. -/
import Derived.RangeFuncNested
import Derived.RangeFuncBound
import Derived.RangeFuncCalls
import Derived.RangeFuncLeaves
import Derived.Shelf.Abstract
import Derived.Shelf.RegionOpen
import Derived.WalkKit
import Derived.OwnWalkIn
import Derived.TacticsInMore
import Derived.LoopNIn
import Derived.LoopIn
import Derived.Outline
import Derived.Lib.Hide
import Derived.IntWalk
import Derived.WalkLawsBesides
import Derived.WalkSpells
import Derived.Laws.BitsAllLaws
import Derived.Lib.ConvBytes
import Derived.Maps.AppendAt
import Derived.Lib.AppendStr
import Derived.Laws.AppendOwnNone
import Derived.Laws.OwnMore
import Derived.Laws.BytesArg
import Derived.Test.YtlgmocmekmppeaaProg
import Derived.Test.YtlgmocmekmppeaaFrA
set_option linter.unusedVariables false
set_option linter.unusedSimpArgs false
namespace Go.Proofs.Ytlgmocmekmppeaa
open Go Go.RowKit Go.Shelf

/-- bytes as cells -/
def enc8 (l : List UInt8) : List Value := l.map fun b => .int .u8 (b.toNat : Int)
theorem enc8_len (l : List UInt8) : (enc8 l).length = l.length := by simp [enc8]
theorem enc8_append (a b : List UInt8) : enc8 (a ++ b) = enc8 a ++ enc8 b := by simp [enc8]
theorem enc8_get (l : List UInt8) (i : Nat) (h : i < l.length) : (enc8 l)[i]? = some (.int .u8 (gb l i)) := by
  simp [enc8, gb, h]
theorem enc8_one (l : List UInt8) : ∀ u ∈ enc8 l, u.oneCell' = true := by
  intro u hu
  obtain ⟨b, _, rfl⟩ := List.mem_map.1 hu
  rfl

/-- A SLICE OF THE CALL's OWN (block from base on) THAT HOLDS THESE BYTES. -/
def OB (W : World) (base : Nat) (v : Value) (l : List UInt8) : Prop := W.ownsRow base 5 1 v l.length (enc8 l)

theorem info5 : (Try.prog.info? 5).map (fun i => (i.zero, i.size, i.bytes)) = some (some (.int .u8 0), 1, 1) := by kernel_rfl

theorem OB.reads {W : World} {base : Nat} {v : Value} {l : List UInt8} (h : OB W base v l) : SB W v l := by
  obtain ⟨hl, h⟩ := h
  rcases h with ⟨rfl, h0⟩ | ⟨g, cap, cur, rfl, hb, hg, hc, hm, hs, ht⟩
  · exact .inl ⟨rfl, List.length_eq_zero_iff.1 h0⟩
  · refine .inr ⟨_, cap, rfl, hc, by unfold maxLen at hm; omega, fun h0 => ⟨g, 0, rfl, fun i hi => ?_⟩⟩
    have e := enc8_get l i hi
    rw [← ht] at e
    simp only [Nat.mul_one] at e
    rw [List.getElem?_take_of_lt (by omega)] at e
    simp only [World.cell?, hg, Nat.zero_add]
    simpa using e

/-- append(own, bytes...) -/
theorem runB_append {w : World} (ty : TypeId) (base : Nat) (v xv : Value) (l m : List UInt8) (hown : OB w base v l) (hm : SB w xv m) (hlen : l.length + m.length ≤ 140737488355328) (hbase : base ≤ w.heap.size) :
    ∃ v' w', (Builtin.append_ #[22, 22] ty #[v, xv]).run Try.prog w = .ok v' w' ∧ OB w' base v' (l ++ m) ∧ w.grownBy w' v.ownBlock ∧ Below base w w' := by
  obtain ⟨i0, hi, hz0, hz1, hz2⟩ := info_parts info5
  rcases hm with ⟨rfl, rfl⟩ | ⟨ad, c, rfl, h1, h2, h3⟩
  · exact ⟨v, w, run_append_owned_none (P := Try.prog) (w := w) base 22 ty 5 i0 1 Try.underlying22 hi v l.length (enc8 l) hown, by simpa using hown, ⟨rfl, rfl, rfl, Nat.le_refl _, fun _ _ _ => rfl⟩, Below.refl _ _⟩
  · obtain ⟨v', w', hr, hown', hgrow, _⟩ := run_append_own (P := Try.prog) w base 22 ty 5 i0 (.int .u8 0) 1 1 Try.underlying22 hi hz0 hz1 hz2 rfl (by decide) v l.length (enc8 l) hown ad m.length c (enc8 m) (by simp [enc8]) (by
      intro j u hj
      have hj' : j < m.length := by have := (List.getElem?_eq_some_iff.1 hj).1; simpa [enc8] using this
      obtain ⟨g, o, rfl, hc⟩ := h3 (by omega)
      rw [enc8_get m j hj'] at hj
      cases hj
      have := hc j hj'
      unfold Addr.add
      split
      · rename_i e; subst e; simpa using this
      · simpa using this) (enc8_one m) (by unfold maxLen; omega) (by omega) hbase
    refine ⟨v', w', hr, ?_, hgrow, (Below.refl base w).grown hgrow hbase (fun k hk => (hown.lt k hk).1)⟩
    have : l.length + m.length = (l ++ m).length := by simp
    unfold OB
    rw [enc8_append, ← this]
    exact hown'
theorem wpB_append {w : World} {ops : Array Oper} {rest : List Oper} {o : Oper} {a : Act} {Q : Exit → Act → World → Prop} (hgd : o.guard = none) (s x : Operand)
    (ho : o.op = .call { callee := .builtin .append, args := #[s, x], argTypes := #[22, 22] })
    (base : Nat) (v xv : Value) (l m : List UInt8) (hs : a.eval s = v) (hown : OB w base v l) (hx : a.eval x = xv) (hm : SB w xv m) (hlen : l.length + m.length ≤ 140737488355328) (hbase : base ≤ w.heap.size)
    (h : ∀ v' w', OB w' base v' (l ++ m) → w.grownBy w' v.ownBlock → Below base w w' → wpList Try.prog ops Q rest (a.put o.dst v') w') : wpList Try.prog ops Q (o :: rest) a w := by
  refine wpList_plain hgd fun K hK => ?_
  obtain ⟨v', w', hrun, h1, h2, h3⟩ := runB_append o.type base v xv l m hown hm hlen hbase
  unfold Oper.wp
  simp [execOp, ho, resolve, invoke, builtin, hs, hx, hrun, Result.andThen]
  exact hK _ _ (h v' w' h1 h2 h3)
theorem stepB_append {w : World} {ops : Array Oper} {o : Oper} {a : Act} {K : Act → World → Prop} {Q : Exit → Act → World → Prop} {E : Prop} (hgd : o.guard = none) (s x : Operand)
    (ho : o.op = .call { callee := .builtin .append, args := #[s, x], argTypes := #[22, 22] })
    (base : Nat) (v xv : Value) (l m : List UInt8) (hs : a.eval s = v) (hown : OB w base v l) (hx : a.eval x = xv) (hm : SB w xv m) (hlen : l.length + m.length ≤ 140737488355328) (hbase : base ≤ w.heap.size)
    (h : ∀ v' w', OB w' base v' (l ++ m) → w.grownBy w' v.ownBlock → Below base w w' → K (a.put o.dst v') w') : if Region.wanted o (yielded ops a.tmps) = true then Oper.wp Try.prog o a w K Q else E := by
  have hw : Region.wanted o (yielded ops a.tmps) = true := by simp [Region.wanted, hgd]
  rw [if_pos hw]
  obtain ⟨v', w', hrun, h1, h2, h3⟩ := runB_append o.type base v xv l m hown hm hlen hbase
  unfold Oper.wp
  simp [execOp, ho, resolve, invoke, builtin, hs, hx, hrun, Result.andThen]
  exact h v' w' h1 h2 h3

/-- four bytes of a number, the lowest ahead -/
def le4 (x : Nat) : List UInt8 := [UInt8.ofNat x, UInt8.ofNat (x / 256), UInt8.ofNat (x / 65536), UInt8.ofNat (x / 16777216)]
theorem le4_take (x k : Nat) (h : k < 4) : (le4 x).take (k + 1) = (le4 x).take k ++ [UInt8.ofNat (x / 256 ^ k)] := by
  match k, h with
  | 0, _ => simp [le4]
  | 1, _ => simp [le4]
  | 2, _ => simp [le4]
  | 3, _ => simp [le4]

set_option maxRecDepth 100000 in
set_option maxHeartbeats 400000 in
theorem little_own (base : Nat) (v : Value) (l : List UInt8) (x : Nat) (hx : x < 4294967296) (w : World) (hlen : l.length ≤ 100000000) (hown : OB w base v l) (hbase : base ≤ w.heap.size) :
    Calls Try.prog 42 #[v, .int .u32 x] w fun e w' => ∃ v', e = .returned v' ∧ OB w' base v' (l ++ le4 x) ∧ Below base w w' := by
  obtain ⟨i0, hi, hz0, hz1, hz2⟩ := info_parts info5
  go_enter Try.func42, Try.ntmps42
  go_wp2
  go_loopw [0, 1, 5] (fun b n i wr => ∃ k : Nat, k ≤ 4 ∧ i = .int .i64 k ∧ n = .int .u32 (x / 256 ^ k : Nat) ∧ wr.ownsRow base 5 1 b (l.length + k) (enc8 (l ++ (le4 x).take k)) ∧ Below base w wr) (fun _ _ i _ => 4 - (intOf i).toNat)
  case atStart => exact ⟨0, by omega, rfl, by simp, by simpa [OB] using hown, Below.refl _ _⟩
  case round =>
    obtain ⟨k, hk, rfl, rfl, hrow, hB⟩ := hrel
    by_cases h4 : k < 4
    · have hlt : x / 256 ^ k < 4294967296 := Nat.lt_of_le_of_lt (Nat.div_le_self _ _) hx
      go_wp2_with (at_builtin; refine wpList_append_own _ rfl _ _ 22 rfl base 5 i0 (.int .u8 0) 1 1 Try.underlying22 hi hz0 hz1 hz2 rfl (by decide) _ _ _ rfl (hrow.alloc _) ⟨wr.heap.size, 0, none⟩ 1 1 [.int .u8 _] rfl rfl (cell_one_new _ _ _) (by simp [Value.oneCell']) (by unfold maxLen; omega) (by omega) (by have := hB.size; simp; omega) ?_; intro v' w1 hown' hgrow _)
      go_roundw
      case rel =>
        refine ⟨k + 1, by omega, by go_num, val_u32 (by rw [Nat.pow_succ, ← Nat.div_div_eq_div_mul]; simp), ?_, (hB.alloc (by have := hB.size; omega) _).grown hgrow (by have := hB.size; simp; omega) (fun j hj => (hrow.lt j hj).1)⟩
        rw [le4_take x k h4, ← List.append_assoc, enc8_append]
        have e : enc8 [UInt8.ofNat (x / 256 ^ k)] = [Value.int .u8 ((x / 256 ^ k : Nat) % 256 : Int)] := by simp [enc8]
        rw [e]
        exact hown'
      case measure => simp [intOf]; omega
    · obtain rfl : k = 4 := by omega
      go_wp2
      go_ret
      exact ⟨_, rfl, by simpa [le4, OB] using hrow, hB⟩

/-- a record: length, check sum, bytes -/
def recB (l : List UInt8) : List UInt8 := le4 l.length ++ le4 (crcN l) ++ l
theorem crcN_lt (l : List UInt8) : crcN l < 4294967296 := by unfold crcN; omega

set_option maxRecDepth 100000 in
set_option maxHeartbeats 400000 in
/-- **frame.Put** -/
theorem put_any (v : Value) (l : List UInt8) (w : World) (hn : l.length ≤ 2000) (h : SB w v l) :
    Calls Try.prog 19 #[v] w fun e w' => ∃ v', e = .returned (.tuple #[v', .int .i64 0]) ∧ OB w' w.heap.size v' (recB l) ∧ Below w.heap.size w w' := by
  obtain ⟨A, c, rfl, h1, h2, h3⟩ := h.form
  have h' := Lib.hid h
  clear h h3
  obtain ⟨i0, hi, hz0, hz1, hz2⟩ := info_parts info5
  have hcl := crcN_lt l
  go_enter Try.func19, Try.ntmps19
  go_wp2_with (at_make; refine wpList_make_own _ rfl _ _ 22 rfl w.heap.size 5 i0 (.int .u8 0) 1 Try.underlying22 hi hz0 hz1 _ _ _ (8 + l.length) rfl rfl (by omega) ?b1 ?b2 ?b3 ?_)
  case b1 => rw [hz2]; omega
  case b2 => unfold maxLen; omega
  case b3 => omega
  intro w1 hown1 hgrow1
  have hB1 : Below w.heap.size w w1 := (Below.refl _ w).grown hgrow1 (Nat.le_refl _) (fun k hk => by cases hk)
  go_wp2_with fail
  refine (little_own w.heap.size _ [] l.length (by omega) w1 (by simp) hown1 hB1.size).mono ?_
  rintro e w2 ⟨v2, rfl, hown2, hB2⟩
  have hB2' := hB1.trans hB2
  go_wp2_with fail
  refine (crc_any _ l w2 (by omega) (h'.out.below hB2')).mono ?_
  rintro e w3 ⟨rfl, rfl⟩
  go_wp2_with fail
  refine (little_own w.heap.size _ _ (crcN l) hcl w2 (by simp [le4]) hown2 hB2'.size).mono ?_
  rintro e w3 ⟨v3, rfl, hown3, hB3⟩
  have hB3' := hB2'.trans hB3
  go_wp2_with (at_builtin; refine wpB_append rfl _ _ rfl w.heap.size _ _ _ l rfl hown3 rfl (h'.out.below hB3') (by simp [le4]; omega) hB3'.size ?_)
  intro v4 w4 hown4 _ hB4
  go_wp2
  go_ret2
  exact ⟨_, rfl, by simpa [recB] using hown4, hB3'.trans hB4⟩
end Go.Proofs.Ytlgmocmekmppeaa

/- The reference: a block. -/
import Derived.RangeFuncNested
import Derived.RangeFuncBound
import Derived.RangeFuncCalls
import Derived.RangeFuncLeaves
import Derived.Shelf.Abstract
import Derived.Shelf.RegionOpen
import Derived.WalkKit
import Derived.OwnWalkIn
import Derived.TacticsInMore
import Derived.LoopNIn
import Derived.LoopIn
import Derived.Outline
import Derived.Lib.Hide
import Derived.Lib.SliceRun
import Derived.IntWalk
import Derived.WalkLawsBesides
import Derived.WalkSpells
import Derived.Laws.BitsAllLaws
import Derived.Lib.ConvBytes
import Derived.Maps.AppendAt
import Derived.Lib.AppendStr
import Derived.Lib.SlBytesConst
import Derived.Laws.AppendOwnNone
import Derived.Laws.OwnMore
import Derived.Laws.BytesArg
import Derived.Deep.RegionHeld3
import Derived.BigQuiet
import Derived.Deep.RegionLaw
import Derived.Deep.QuietTactic
import Derived.Test.YtkipnhhdlohnfaaProg
import Derived.Test.YtkipnhhdlohnfaaDgG
set_option linter.unusedVariables false
set_option linter.unusedSimpArgs false
namespace Go.Proofs.Ytkipnhhdlohnfaa
open Go Go.RowKit Go.Shelf

theorem infoW : (Try.prog.info? 56).map (fun i => (i.zero, i.size, i.bytes)) = some (some (.int .u32 0), 1, 4) := by kernel_rfl
theorem be4_names (l : List UInt8) (t : Nat) : ∃ x0 x1 x2 z1 z2 : BitVec 32, IntKind.u32.wrap ((gb l (4 * t) : Int) * 16777216) = (x0.toNat : Int) ∧ IntKind.u32.wrap ((gb l (4 * t + 1) : Int) * 65536) = (x1.toNat : Int) ∧ IntKind.u32.wrap ((gb l (4 * t + 2) : Int) * 256) = (x2.toNat : Int) ∧
    bits BinOp.or IntKind.u32 (x0.toNat : Int) (x1.toNat : Int) = (z1.toNat : Int) ∧ bits BinOp.or IntKind.u32 (z1.toNat : Int) (x2.toNat : Int) = (z2.toNat : Int) ∧ bits BinOp.or IntKind.u32 (z2.toNat : Int) (gb l (4 * t + 3) : Int) = ((be4 l t).toNat : Int) := by
  refine ⟨g8 l (4 * t) <<< 24, g8 l (4 * t + 1) <<< 16, g8 l (4 * t + 2) <<< 8, _, _, ?_, ?_, ?_, bv_or _ _, bv_or _ _, ?_⟩
  · rw [IntKind.wrap_u32, ← g8_gb, ← bv_shl]; rfl
  · rw [IntKind.wrap_u32, ← g8_gb, ← bv_shl]; rfl
  · rw [IntKind.wrap_u32, ← g8_gb, ← bv_shl]; rfl
  · rw [← g8_gb, bv_or]; rfl
theorem cell_new1 (w : World) (v : Value) (t : TypeId) : (w.alloc (.cells #[v] t)).cell? ⟨w.heap.size, 0, none⟩ = some v := by
  rw [(Row.new w #[v] t).cell 0]; rfl
theorem OV.set {W : World} {base g n c : Nat} {t : TypeId} {l : List Value} (h : OV W base t (.slice (some ⟨g, 0, none⟩) n c) l) (i : Nat) (v : Value) (hi : i < l.length) : OV (W.setCell ⟨g, i, none⟩ v) base t (.slice (some ⟨g, 0, none⟩) n c) (l.set i v) := by
  obtain ⟨hl, hc⟩ := h
  rcases hc with ⟨h0, _⟩ | ⟨g', cap, cur, e, hb, hg, hn, hm, hs, ht⟩
  · cases h0
  · cases e
    refine ⟨by simp, .inr ⟨g, c, cur.setIfInBounds i v, by rw [List.length_set], hb, ?_, by rw [List.length_set]; exact hn, hm, by simpa using hs, ?_⟩⟩
    · exact heap_setCell_same W g i cur t v hg
    · rw [List.length_set, Array.toList_setIfInBounds, List.take_set, ht]
theorem OV.cell {W : World} {base g n c : Nat} {t : TypeId} {l : List (BitVec 32)} (h : OV W base t (.slice (some ⟨g, 0, none⟩) n c) (encW l)) (i : Nat) (hi : i < l.length) : W.cell? ⟨g, i, none⟩ = some (.int .u32 ((gw l i).toNat : Int)) := by
  obtain ⟨A, c', e, _, hc⟩ := h.reads
  obtain ⟨g', o, e2, hcell⟩ := hc i (by rw [encW_length]; exact hi)
  cases e
  cases e2
  rw [encW_get _ _ hi, Nat.zero_add] at hcell
  exact hcell
theorem OV.form {W : World} {base : Nat} {t : TypeId} {v : Value} {l : List Value} (h : OV W base t v l) (h0 : 0 < l.length) : ∃ g c, v = .slice (some ⟨g, 0, none⟩) l.length c ∧ base ≤ g ∧ g < W.heap.size ∧ (l.length ≤ c ∧ c ≤ 9223372036854775807) := by
  obtain ⟨hl, hc⟩ := h
  rcases hc with ⟨_, h1⟩ | ⟨g, cap, cur, rfl, hb, hg, hn, hm, hs, ht⟩
  · omega
  · exact ⟨g, cap, rfl, hb, (Array.getElem?_eq_some_iff.1 hg).1, hn, by unfold maxLen at hm; omega⟩
theorem OV.frozen {W : World} {base g n c : Nat} {t : TypeId} {l : List Value} (h : OV W base t (.slice (some ⟨g, 0, none⟩) n c) l) (hn : n = l.length) (j : Nat) : W.frozen? ⟨g, j, none⟩ = false := by
  subst hn; exact World.ownsRow.frozenAt h j
theorem low_names2 (x : BitVec 32) : ∃ a b z l : BitVec 32, rr x 7 = a ∧ rr x 18 = b ∧ bits BinOp.xor IntKind.u32 (a.toNat : Int) (b.toNat : Int) = (z.toNat : Int) ∧ bits BinOp.xor IntKind.u32 (z.toNat : Int) ((x.toNat : Int) / 8) = (l.toNat : Int) ∧ bits BinOp.xor IntKind.u32 (z.toNat : Int) ((x.toNat : Int) / 2 ^ 3) = (l.toNat : Int) ∧ low x = l := by
  obtain ⟨a, b, z, l, h1, h2, h3, h4, h5⟩ := low_names x
  exact ⟨a, b, z, l, h1, h2, h3, h4, h4, h5⟩
theorem high_names2 (x : BitVec 32) : ∃ a b z l : BitVec 32, rr x 17 = a ∧ rr x 19 = b ∧ bits BinOp.xor IntKind.u32 (a.toNat : Int) (b.toNat : Int) = (z.toNat : Int) ∧ bits BinOp.xor IntKind.u32 (z.toNat : Int) ((x.toNat : Int) / 1024) = (l.toNat : Int) ∧ bits BinOp.xor IntKind.u32 (z.toNat : Int) ((x.toNat : Int) / 2 ^ 10) = (l.toNat : Int) ∧ high x = l := by
  obtain ⟨a, b, z, l, h1, h2, h3, h4, h5⟩ := high_names x
  exact ⟨a, b, z, l, h1, h2, h3, h4, h4, h5⟩
theorem rrnd_names (s : St) (k w : BitVec 32) : ∃ m1 ne m2 cz a6 a11 x1 a25 T1 u1 u2 u3 u4 n1 n2 o1 n3 mj a2 a13 x2 a22 T0 u5 a' d' : BitVec 32,
    (bits BinOp.and IntKind.u32 (s.e.toNat : Int) (s.f.toNat : Int) = (m1.toNat : Int) ∧ bits BinOp.xor IntKind.u32 IntKind.u32.max (s.e.toNat : Int) = (ne.toNat : Int) ∧ bits BinOp.and IntKind.u32 (ne.toNat : Int) (s.g.toNat : Int) = (m2.toNat : Int) ∧ bits BinOp.xor IntKind.u32 (m1.toNat : Int) (m2.toNat : Int) = (cz.toNat : Int)) ∧
    (rr s.e 6 = a6 ∧ rr s.e 11 = a11 ∧ bits BinOp.xor IntKind.u32 (a6.toNat : Int) (a11.toNat : Int) = (x1.toNat : Int) ∧ rr s.e 25 = a25 ∧ bits BinOp.xor IntKind.u32 (x1.toNat : Int) (a25.toNat : Int) = (T1.toNat : Int)) ∧
    (((s.h.toNat : Int) + (T1.toNat : Int)) % 4294967296 = (u1.toNat : Int) ∧ ((u1.toNat : Int) + (cz.toNat : Int)) % 4294967296 = (u2.toNat : Int) ∧ ((u2.toNat : Int) + (k.toNat : Int)) % 4294967296 = (u3.toNat : Int) ∧ ((u3.toNat : Int) + (w.toNat : Int)) % 4294967296 = (u4.toNat : Int)) ∧
    (bits BinOp.and IntKind.u32 (s.a.toNat : Int) (s.b.toNat : Int) = (n1.toNat : Int) ∧ bits BinOp.and IntKind.u32 (s.a.toNat : Int) (s.c.toNat : Int) = (n2.toNat : Int) ∧ bits BinOp.or IntKind.u32 (n1.toNat : Int) (n2.toNat : Int) = (o1.toNat : Int) ∧ bits BinOp.and IntKind.u32 (s.b.toNat : Int) (s.c.toNat : Int) = (n3.toNat : Int) ∧ bits BinOp.or IntKind.u32 (o1.toNat : Int) (n3.toNat : Int) = (mj.toNat : Int)) ∧
    (rr s.a 2 = a2 ∧ rr s.a 13 = a13 ∧ bits BinOp.xor IntKind.u32 (a2.toNat : Int) (a13.toNat : Int) = (x2.toNat : Int) ∧ rr s.a 22 = a22 ∧ bits BinOp.xor IntKind.u32 (x2.toNat : Int) (a22.toNat : Int) = (T0.toNat : Int) ∧ ((T0.toNat : Int) + (mj.toNat : Int)) % 4294967296 = (u5.toNat : Int)) ∧
    (((u4.toNat : Int) + (u5.toNat : Int)) % 4294967296 = (a'.toNat : Int) ∧ ((s.d.toNat : Int) + (u4.toNat : Int)) % 4294967296 = (d'.toNat : Int)) ∧
    rnd s k w = ⟨a', s.a, s.b, s.c, d', s.e, s.f, s.g⟩ := by
  refine ⟨_, ~~~ s.e, _, _, _, _, _, _, _, _, _, _, _, _, _, _, _, _, _, _, _, _, _, _, _, _, ⟨bv_and _ _, ?_, bv_and _ _, bv_xor _ _⟩, ⟨rfl, rfl, bv_xor _ _, rfl, bv_xor _ _⟩, ⟨bv_add _ _, bv_add _ _, bv_add _ _, bv_add _ _⟩, ⟨bv_and _ _, bv_and _ _, bv_or _ _, bv_and _ _, bv_or _ _⟩, ⟨rfl, rfl, bv_xor _ _, rfl, bv_xor _ _, bv_add _ _⟩, ⟨bv_add _ _, bv_add _ _⟩, ?_⟩
  · have h : IntKind.u32.max = ((BitVec.allOnes 32).toNat : Int) := by decide
    rw [h, bv_xor, BitVec.allOnes_xor]
  · unfold rnd
    rw [chs_ref, maj_ref]
    rfl
theorem wr_add (x y z : BitVec 32) (h : ((x.toNat : Int) + (y.toNat : Int)) % 4294967296 = (z.toNat : Int)) : IntKind.u32.wrap ((x.toNat : Int) + (y.toNat : Int)) = (z.toNat : Int) := by rw [IntKind.wrap_u32]; exact h
/-- one word behind a row of words of the call's own: what stood in the row stands there still -/
theorem runW_keep {w : World} (ty : TypeId) (base : Nat) (v : Value) (l : List (BitVec 32)) (b : Nat) (y : BitVec 32) (hown : OV w base 56 v (encW l)) (hm : w.cell? ⟨b, 0, none⟩ = some (.int .u32 (y.toNat : Int))) (hlen : l.length ≤ 1000) (hbase : base ≤ w.heap.size) :
    ∃ v' w', (Builtin.append_ #[55, 55] ty #[v, .slice (some ⟨b, 0, none⟩) 1 1]).run Try.prog w = .ok v' w' ∧ OV w' base 56 v' (encW (l ++ [y])) ∧ w.grownBy w' v.ownBlock ∧ ∀ g j u, v.ownBlock = some g → j < l.length → w.cell? ⟨g, j, none⟩ = some u → w'.cell? ⟨g, j, none⟩ = some u := by
  obtain ⟨i0, hi, hz0, hz1, hz2⟩ := info_parts infoW
  have hnews : ∀ j u, [Value.int .u32 (y.toNat : Int)][j]? = some u → w.cell? ((⟨b, 0, none⟩ : Addr).add j) = some u := by
    intro j u hj
    cases j with
    | zero => simp at hj; subst hj; have : (⟨b, 0, none⟩ : Addr).add 0 = ⟨b, 0, none⟩ := rfl; rw [this]; exact hm
    | succ j => simp at hj
  have e : encW (l ++ [y]) = encW l ++ [.int .u32 (y.toNat : Int)] := by simp [encW]
  have hlw := encW_length l
  obtain ⟨v', w', hr, h2, h3, -⟩ := run_append_own (P := Try.prog) w base 55 ty 56 i0 (.int .u32 0) 1 4 Try.underlying55 hi hz0 hz1 hz2 rfl (by decide) v (encW l).length (encW l) hown ⟨b, 0, none⟩ 1 1 [.int .u32 (y.toNat : Int)] rfl hnews (by simp [Value.oneCell']) (by rw [hlw]; unfold maxLen; omega) (by rw [hlw]; omega) hbase
  refine ⟨v', w', hr, by unfold OV; rw [e, List.length_append]; exact h2, h3, ?_⟩
  intro g j u hg hj hu
  have hown' := hown
  obtain ⟨hl, hc⟩ := hown'
  rcases hc with ⟨rfl, _⟩ | ⟨g', cap, cur, rfl, hb, hgg, hn, hmx, hs, ht⟩
  · simp [Value.ownBlock] at hg
  · simp [Value.ownBlock] at hg
    subst hg
    by_cases hroom : (encW l).length + 1 ≤ cap
    · have hs' : cur.size = cap := by simpa using hs
      have hr2 := run_append_room (P := Try.prog) w 55 ty 56 i0 Try.underlying55 hi g' (encW l).length cap cur hgg ⟨b, 0, none⟩ 1 1 [.int .u32 (y.toNat : Int)] (by rw [hz1]; rfl) hnews (by simp [Value.oneCell']) hroom (by rw [hz1]; simp; omega)
      rw [hr2] at hr
      cases hr
      rw [cell_setRow_same w g' j cur _ 56 _ hgg]
      rw [cell_of_row w g' j cur 56 (0, 0) hgg] at hu
      rw [hz1, Nat.mul_one]
      rw [List.getElem?_toArray, List.append_assoc, List.getElem?_append_left (by simp; omega), List.getElem?_take_of_lt (by omega)]
      simpa using hu
    · have hr2 := run_append_grow (P := Try.prog) w 55 ty 56 i0 (.int .u32 0) Try.underlying55 hi hz0 ⟨g', 0, none⟩ (encW l).length cap (encW l) (by rw [hz1, Nat.mul_one]) (by
        intro j u hj
        exact World.ownsRow.cells hown rfl j u hj) ⟨b, 0, none⟩ 1 1 [.int .u32 (y.toNat : Int)] (by rw [hz1]; rfl) hnews (by omega) (by omega) (growslice_fits (by omega) (by rw [hz2]; omega))
      rw [hr2] at hr
      cases hr
      exact Lib.cell?_alloc_some _ hu
/-- the same as a step of a region -/
theorem stepW_append {w : World} {ops : Array Oper} {o : Oper} {a : Act} {K : Act → World → Prop} {Q : Exit → Act → World → Prop} {E : Prop} (hgd : o.guard = none) (s x : Operand)
    (ho : o.op = .call { callee := .builtin .append, args := #[s, x], argTypes := #[55, 55] })
    (base : Nat) (v : Value) (l : List (BitVec 32)) (b : Nat) (y : BitVec 32) (hs : a.eval s = v) (hown : OV w base 56 v (encW l)) (hx : a.eval x = .slice (some ⟨b, 0, none⟩) 1 1) (hm : w.cell? ⟨b, 0, none⟩ = some (.int .u32 (y.toNat : Int))) (hlen : l.length ≤ 1000) (hbase : base ≤ w.heap.size)
    (h : ∀ v' w', OV w' base 56 v' (encW (l ++ [y])) → w.grownBy w' v.ownBlock → Below base w w' → (∀ g j u, v.ownBlock = some g → j < l.length → w.cell? ⟨g, j, none⟩ = some u → w'.cell? ⟨g, j, none⟩ = some u) → K (a.put o.dst v') w') : if Region.wanted o (yielded ops a.tmps) = true then Oper.wp Try.prog o a w K Q else E := by
  have hw : Region.wanted o (yielded ops a.tmps) = true := by simp [Region.wanted, hgd]
  rw [if_pos hw]
  obtain ⟨v', w', hr, h2, h3, h4⟩ := runW_keep o.type base v l b y hown hm hlen hbase
  unfold Oper.wp
  simp [execOp, ho, resolve, invoke, builtin, hs, hx, hr, Result.andThen]
  exact h _ _ h2 h3 ((Below.refl base w).grown h3 hbase (fun k hk => (hown.lt k hk).1)) h4

set_option maxRecDepth 100000 in
set_option maxHeartbeats 1000000 in
theorem rone_gen (s : St) (blk : List UInt8) (W : List (BitVec 32)) (hW : W.length = 64) (hlow : ∀ t, t < 16 → gw W t = be4 blk t) (hhigh : ∀ t, ¬ t < 16 → t < 64 → gw W t = gw W (t - 16) + low (gw W (t - 15)) + gw W (t - 7) + high (gw W (t - 2)))
    (rsf : Nat → St) (hr0 : rsf 0 = s) (hrs : ∀ t, t < 64 → rsf (t + 1) = rnd (rsf t) (kt t) (gw W t)) (out : List (BitVec 32)) (hout : (s.plus (rsf 64)).list = out)
    (v0 v : Value) (w : World) (hst : SL w v0 (encW s.list)) (hv : SB w v blk) (h64 : 64 ≤ blk.length) (hmax : blk.length ≤ 1000000) :
    Calls Try.prog 41 #[v0, v] w fun e w' => ∃ v', e = .returned v' ∧ OV w' w.heap.size 56 v' (encW out) ∧ Below w.heap.size w w' := by
  obtain ⟨A, c, rfl, hc1, hc2, hcell⟩ := hv.form
  obtain ⟨g, o, rfl, hb⟩ := hcell (by omega)
  obtain ⟨A0, c0, rfl, ⟨hd1, hd2⟩, hst1⟩ := hst
  obtain ⟨base, hbase⟩ : ∃ base, w.heap.size = base := ⟨_, rfl⟩
  have hgl : Hid (g < base) := by rw [← hbase]; exact World.block_lt_of_cell? w _ (hb 0 (by omega))
  have hsl : (encW s.list).length = 8 := rfl
  rw [hsl] at hd1 hst1 ⊢
  have Hb := Lib.hid hb
  have Hst1 := Lib.hid hst1
  have Hlow := Lib.hid hlow
  have Hhigh := Lib.hid hhigh
  have Hr0 := Lib.hid hr0
  have Hrs := Lib.hid hrs
  have Hout := Lib.hid hout
  clear hcell hv hb hst1 hlow hhigh hr0 hrs hout hsl
  go_enter Try.func41, Try.ntmps41
  go_wp2
  go_loopw [5, 6] (fun b q wr => ∃ i : Nat, (q = .int .i64 (i : Int) ∧ i ≤ 64) ∧ OV wr base 56 b (encW (W.take i)) ∧ Below base w wr) (fun _ q _ => 64 - (intOf q).toNat)
  case atStart => exact ⟨0, ⟨rfl, by omega⟩, OV.nil _ _ _, Below.refl _ _⟩
  case round =>
    obtain ⟨i, ⟨rfl, hi⟩, hown, hbl⟩ := hrel
    have hsz : base ≤ wr.heap.size := by rw [← hbase]; exact hbl.size
    by_cases hlt : i < 64
    · have hWl : (W.take i).length = i := by rw [List.length_take]; omega
      have htk : W.take (i + 1) = W.take i ++ [gw W i] := by
        rw [List.take_succ_eq_append_getElem (by omega)]
        unfold gw; rw [List.getElem?_eq_getElem (by omega)]; rfl
      obtain ⟨A1, c1, rfl, ⟨hf1, hf2⟩, hw1⟩ := hown.reads
      rw [encW_length, hWl] at hf1 hw1 hown ⊢
      by_cases h16 : i < 16
      · have kc := fun j (hj : j < 64) => (hbl.cell (p := ⟨g, o + j, none⟩) hgl.out).trans (Hb.out j (by omega))
        obtain ⟨x0, x1, x2, z1, z2, f0, f1, f2, f3, f4, f5⟩ := be4_names blk i
        rw [← Hlow.out i h16] at f5
        obtain ⟨e0, he0⟩ : ∃ e, 4 * i = e := ⟨_, rfl⟩
        obtain ⟨e1, he1⟩ : ∃ e, 4 * i + 1 = e := ⟨_, rfl⟩
        obtain ⟨e2, he2⟩ : ∃ e, 4 * i + 2 = e := ⟨_, rfl⟩
        obtain ⟨e3, he3⟩ : ∃ e, 4 * i + 3 = e := ⟨_, rfl⟩
        rw [he0] at f0
        rw [he1] at f1
        rw [he2] at f2
        rw [he3] at f5
        have k0 := kc e0 (by omega)
        have k1 := kc e1 (by omega)
        have k2 := kc e2 (by omega)
        have k3 := kc e3 (by omega)
        have b0 := gb_lt blk e0
        have b1 := gb_lt blk e1
        have b2 := gb_lt blk e2
        have b3 := gb_lt blk e3
        obtain ⟨q0, hq0⟩ : ∃ q, gb blk e0 = q := ⟨_, rfl⟩
        obtain ⟨q1, hq1⟩ : ∃ q, gb blk e1 = q := ⟨_, rfl⟩
        obtain ⟨q2, hq2⟩ : ∃ q, gb blk e2 = q := ⟨_, rfl⟩
        obtain ⟨q3, hq3⟩ : ∃ q, gb blk e3 = q := ⟨_, rfl⟩
        rw [hq0] at f0 k0 b0
        rw [hq1] at f1 k1 b1
        rw [hq2] at f2 k2 b2
        rw [hq3] at f5 k3 b3
        have n0 : IntKind.u32.wrap (q0 : Int) = (q0 : Int) := by rw [IntKind.wrap_u32]; omega
        have n1 : IntKind.u32.wrap (q1 : Int) = (q1 : Int) := by rw [IntKind.wrap_u32]; omega
        have n2 : IntKind.u32.wrap (q2 : Int) = (q2 : Int) := by rw [IntKind.wrap_u32]; omega
        have n3 : IntKind.u32.wrap (q3 : Int) = (q3 : Int) := by rw [IntKind.wrap_u32]; omega
        have m0 : IntKind.i64.wrap (4 * (i : Int)) = (e0 : Int) := by rw [IntWalk.i64_in _ (by omega)]; omega
        have m1 : IntKind.i64.wrap ((e0 : Int) + 1) = (e1 : Int) := by rw [IntWalk.i64_in _ (by omega)]; omega
        have m2 : IntKind.i64.wrap ((e0 : Int) + 2) = (e2 : Int) := by rw [IntWalk.i64_in _ (by omega)]; omega
        have m3 : IntKind.i64.wrap ((e0 : Int) + 3) = (e3 : Int) := by rw [IntWalk.i64_in _ (by omega)]; omega
        have l0 : e0 < blk.length := by omega
        have l1 : e1 < blk.length := by omega
        have l2 : e2 < blk.length := by omega
        have l3 : e3 < blk.length := by omega
        have Hown := Lib.hid hown
        have Hbl := Lib.hid hbl
        have Htk := Lib.hid htk
        obtain ⟨y, hy⟩ : ∃ y, gw W i = y := ⟨_, rfl⟩
        rw [hy] at f5 Htk
        clear hown hbl hw1 kc he0 he1 he2 he3 hq0 hq1 hq2 hq3 hy htk
        go_wp2
        go_region_held3 (fun w' => w'.cell? ⟨g, o + e0, none⟩ = some (.int .u8 q0) ∧ w'.cell? ⟨g, o + e1, none⟩ = some (.int .u8 q1) ∧ w'.cell? ⟨g, o + e2, none⟩ = some (.int .u8 q2) ∧ w'.cell? ⟨g, o + e3, none⟩ = some (.int .u8 q3)) (first | exact ⟨k0, k1, k2, k3⟩ | exact ⟨Lib.cell?_alloc_some _ k0, Lib.cell?_alloc_some _ k1, Lib.cell?_alloc_some _ k2, Lib.cell?_alloc_some _ k3⟩ | exact ⟨t0, t1, t2, t3⟩ | go_keep) ((refine stepW_append rfl _ _ rfl base (.slice A1 i c1) (W.take i) wr.heap.size y rfl (World.ownsRow.alloc Hown.out _) rfl (cell_new1 wr _ _) (by omega) (by simp; omega) ?_; intro v' w1 hown' hgrow hbel _; have t0 := (hbel.cell (p := ⟨g, o + e0, none⟩) hgl.out).trans (Lib.cell?_alloc_some (.cells #[.int .u32 (y.toNat : Int)] 56) k0); have t1 := (hbel.cell (p := ⟨g, o + e1, none⟩) hgl.out).trans (Lib.cell?_alloc_some (.cells #[.int .u32 (y.toNat : Int)] 56) k1); have t2 := (hbel.cell (p := ⟨g, o + e2, none⟩) hgl.out).trans (Lib.cell?_alloc_some (.cells #[.int .u32 (y.toNat : Int)] 56) k2); have t3 := (hbel.cell (p := ⟨g, o + e3, none⟩) hgl.out).trans (Lib.cell?_alloc_some (.cells #[.int .u32 (y.toNat : Int)] 56) k3)))
        have hB1 := Lib.hid (((Hbl.out.alloc (by omega) (.cells #[.int .u32 (y.toNat : Int)] 56)).drew).trans hbel)
        clear hbel hgrow t0 t1 t2 t3 Hbl
        go_wp2
        exact ⟨⟨i + 1, ⟨by go_num, by omega⟩, by rw [Htk.out]; exact hown', hB1.out⟩, by simp [intOf]; omega⟩
      · obtain ⟨g1, o1, rfl, -⟩ := hw1 0 (by omega)
        have Ho : Hid (o1 = 0) := by
          obtain ⟨g', c', he, -⟩ := hown.form (by rw [encW_length, hWl]; omega)
          simp at he
          exact he.1.2
        have kw : ∀ j, j < i → wr.cell? ⟨g1, o1 + j, none⟩ = some (.int .u32 ((gw W j).toNat : Int)) := fun j hj => by
          obtain ⟨g', o', e, hc⟩ := hw1 j hj
          cases e
          have hgj : (encW (W.take i))[j]? = some (.int .u32 ((gw W j).toNat : Int)) := by
            rw [encW_get _ _ (by rw [hWl]; exact hj)]
            unfold gw; rw [List.getElem?_take_of_lt hj]
          rw [hgj] at hc
          exact hc
        have hgo : Hid (g1 < wr.heap.size) := World.block_lt_of_cell? _ _ (kw 0 (by omega))
        have hw := Hhigh.out i h16 hlt
        obtain ⟨a15, ha15⟩ : ∃ e, i - 15 = e := ⟨_, rfl⟩
        obtain ⟨a2, ha2⟩ : ∃ e, i - 2 = e := ⟨_, rfl⟩
        obtain ⟨a16, ha16⟩ : ∃ e, i - 16 = e := ⟨_, rfl⟩
        obtain ⟨a7, ha7⟩ : ∃ e, i - 7 = e := ⟨_, rfl⟩
        rw [ha15, ha2, ha16, ha7] at hw
        have n15 : IntKind.i64.wrap ((i : Int) - 15) = (a15 : Int) := by rw [IntWalk.i64_in _ (by omega)]; omega
        have n2 : IntKind.i64.wrap ((i : Int) - 2) = (a2 : Int) := by rw [IntWalk.i64_in _ (by omega)]; omega
        have n16 : IntKind.i64.wrap ((i : Int) - 16) = (a16 : Int) := by rw [IntWalk.i64_in _ (by omega)]; omega
        have n7 : IntKind.i64.wrap ((i : Int) - 7) = (a7 : Int) := by rw [IntWalk.i64_in _ (by omega)]; omega
        have l15 : a15 < i := by omega
        have l2 : a2 < i := by omega
        have l16 : a16 < i := by omega
        have l7 : a7 < i := by omega
        have c15 := kw a15 l15
        have c2 := kw a2 l2
        have c16 := kw a16 l16
        have c7 := kw a7 l7
        obtain ⟨x15, e15⟩ : ∃ x, gw W a15 = x := ⟨_, rfl⟩
        obtain ⟨x2, e2⟩ : ∃ x, gw W a2 = x := ⟨_, rfl⟩
        obtain ⟨x16, e16⟩ : ∃ x, gw W a16 = x := ⟨_, rfl⟩
        obtain ⟨x7, e7⟩ : ∃ x, gw W a7 = x := ⟨_, rfl⟩
        rw [e15, e2, e16, e7] at hw
        rw [e15] at c15
        rw [e2] at c2
        rw [e16] at c16
        rw [e7] at c7
        obtain ⟨r7, r18, z1, lo, hA, hB, hZ, hL, hL', hlo⟩ := low_names2 x15
        obtain ⟨r17, r19, z2, hg, hA2, hB2, hZ2, hL2, hL2', hhg⟩ := high_names2 x2
        have t7 : ∀ w, Calls Try.prog 58 #[.int .u32 (x15.toNat : Int), .int .i64 7] w fun e w' => e = .returned (.int .u32 ((rr x15 7).toNat : Int)) ∧ w' = w := fun w => rright_any x15 7 (by omega) (by omega) w
        have t18 : ∀ w, Calls Try.prog 58 #[.int .u32 (x15.toNat : Int), .int .i64 18] w fun e w' => e = .returned (.int .u32 ((rr x15 18).toNat : Int)) ∧ w' = w := fun w => rright_any x15 18 (by omega) (by omega) w
        have t17 : ∀ w, Calls Try.prog 58 #[.int .u32 (x2.toNat : Int), .int .i64 17] w fun e w' => e = .returned (.int .u32 ((rr x2 17).toNat : Int)) ∧ w' = w := fun w => rright_any x2 17 (by omega) (by omega) w
        have t19 : ∀ w, Calls Try.prog 58 #[.int .u32 (x2.toNat : Int), .int .i64 19] w fun e w' => e = .returned (.int .u32 ((rr x2 19).toNat : Int)) ∧ w' = w := fun w => rright_any x2 19 (by omega) (by omega) w
        rw [hA] at t7
        rw [hB] at t18
        rw [hA2] at t17
        rw [hB2] at t19
        obtain ⟨p1, hp1, w1, v1⟩ := add_names hg x7
        obtain ⟨p2, hp2, w2, v2⟩ := add_names p1 lo
        obtain ⟨p3, hp3, w3, v3⟩ := add_names p2 x16
        have hfin : gw W i = p3 := by rw [hw, hlo, hhg, ← hp3, ← hp2, ← hp1]; ac_rfl
        rw [hfin] at htk
        have T7 := Lib.hid t7
        have T18 := Lib.hid t18
        have T17 := Lib.hid t17
        have T19 := Lib.hid t19
        have Hown := Lib.hid hown
        have Hbl := Lib.hid hbl
        have Htk := Lib.hid htk
        clear hown hbl hw1 kw ha15 ha2 ha16 ha7 e15 e2 e16 e7 hw hA hB hA2 hB2 hlo hhg hp1 hp2 hp3 hfin t7 t18 t17 t19 htk
        go_wp2
        go_quiet (first | (go_at_call 58; first | with_reducible exact quiet_r (T7.out _) | with_reducible exact quiet_r (T18.out _)))
        go_wp2
        generalize hwq : wr.drewN _ = wq
        have d2 : wq.cell? ⟨g1, o1 + a2, none⟩ = some (.int .u32 (x2.toNat : Int)) := by rw [← hwq]; exact c2
        have d16 : wq.cell? ⟨g1, o1 + a16, none⟩ = some (.int .u32 (x16.toNat : Int)) := by rw [← hwq]; exact c16
        have d7 : wq.cell? ⟨g1, o1 + a7, none⟩ = some (.int .u32 (x7.toNat : Int)) := by rw [← hwq]; exact c7
        have Hownq : Hid (OV wq base 56 (.slice (some ⟨g1, o1, none⟩) i c1) (encW (W.take i))) := by rw [← hwq]; exact Hown
        have Hblq : Hid (Below base w wq) := by rw [← hwq]; exact below_drewN Hbl.out _
        have hsq : base ≤ wq.heap.size := by rw [← hwq]; exact hsz
        have hgq : Hid (g1 < wq.heap.size) := by rw [← hwq]; exact hgo
        clear hwq c15 c2 c16 c7 Hown Hbl hsz hgo
        go_quiet (first | (go_at_call 58; first | with_reducible exact quiet_r (T17.out _) | with_reducible exact quiet_r (T19.out _)))
        go_wp2
        generalize hwz : wq.drewN _ = wz
        have k16 : wz.cell? ⟨g1, o1 + a16, none⟩ = some (.int .u32 (x16.toNat : Int)) := by rw [← hwz]; exact d16
        have k7 : wz.cell? ⟨g1, o1 + a7, none⟩ = some (.int .u32 (x7.toNat : Int)) := by rw [← hwz]; exact d7
        have Hown : Hid (OV wz base 56 (.slice (some ⟨g1, o1, none⟩) i c1) (encW (W.take i))) := by rw [← hwz]; exact Hownq
        have Hbl : Hid (Below base w wz) := by rw [← hwz]; exact below_drewN Hblq.out _
        have hsz : base ≤ wz.heap.size := by rw [← hwz]; exact hsq
        have hgo : Hid (g1 < wz.heap.size) := by rw [← hwz]; exact hgq
        clear hwz d2 d16 d7 Hownq Hblq hsq hgq T7 T18 T17 T19 hZ hL hL' hZ2 hL2 hL2'
        go_region_held3 (fun w' => w'.cell? ⟨g1, o1 + a16, none⟩ = some (.int .u32 (x16.toNat : Int)) ∧ w'.cell? ⟨g1, o1 + a7, none⟩ = some (.int .u32 (x7.toNat : Int))) (first | exact ⟨k16, k7⟩ | exact ⟨Lib.cell?_alloc_some _ k16, Lib.cell?_alloc_some _ k7⟩ | exact ⟨t16, t7⟩ | go_keep) ((refine stepW_append rfl _ _ rfl base (.slice (some ⟨g1, o1, none⟩) i c1) (W.take i) wz.heap.size p3 rfl (World.ownsRow.alloc Hown.out _) rfl (cell_new1 wz _ _) (by omega) (by simp; omega) ?_; intro v' w1 hown' hgrow hbel hkeep; have t16 := hkeep g1 (o1 + a16) _ rfl (by rw [Ho.out, hWl]; omega) (Lib.cell?_alloc_some (.cells #[.int .u32 (p3.toNat : Int)] 56) k16); have t7 := hkeep g1 (o1 + a7) _ rfl (by rw [Ho.out, hWl]; omega) (Lib.cell?_alloc_some (.cells #[.int .u32 (p3.toNat : Int)] 56) k7)))
        all_goals
          have hB1 := Lib.hid (((Hbl.out.alloc hsz (.cells #[.int .u32 (p3.toNat : Int)] 56)).drew).trans hbel)
          clear hbel hgrow k16 k7 Hbl Hown
          go_wp2
          exact ⟨⟨i + 1, ⟨by go_num, by omega⟩, by rw [Htk.out]; exact hown', hB1.out⟩, by simp [intOf]; omega⟩
    · obtain rfl : i = 64 := by omega
      have hWa : W.take 64 = W := List.take_of_length_le (by omega)
      rw [hWa] at hown
      obtain ⟨g1, c1, rfl, hg1, hg2, hf1, hf2⟩ := hown.form (by rw [encW_length]; omega)
      rw [encW_length, hW] at hown hf1 ⊢
      have hwc : ∀ j, j < 64 → wr.cell? ⟨g1, j, none⟩ = some (.int .u32 ((gw W j).toNat : Int)) := fun j hj => hown.cell j (by omega)
      obtain ⟨gs, os, rfl, hs0⟩ := Hst1.out 0 (by omega)
      have hsc : ∀ j, j < 8 → w.cell? ⟨gs, os + j, none⟩ = some (.int .u32 ((gw s.list j).toNat : Int)) := by
        intro j hj
        obtain ⟨g', o', e, hc⟩ := Hst1.out j hj
        cases e
        rw [hc, encW_get _ _ hj]
      have hgs : gs < base := by rw [← hbase]; exact World.block_lt_of_cell? w _ (hsc 0 (by omega))
      have hsl8 : s.list.length = 8 := rfl
      obtain ⟨sl, hsl⟩ : ∃ sl, s.list = sl := ⟨_, rfl⟩
      rw [hsl] at hsc hsl8
      obtain ⟨i0, hi0, hz0, hz1, hz2⟩ := info_parts infoW
      have hsrc : ∀ j u, (encW sl)[j]? = some u → wr.cell? ((⟨gs, os, none⟩ : Addr).add j) = some u := by
        intro j u hj
        have hj8 : j < 8 := by have := (List.getElem?_eq_some_iff.1 hj).1; rwa [encW_length, hsl8] at this
        have hadd : (⟨gs, os, none⟩ : Addr).add j = ⟨gs, os + j, none⟩ := by unfold Addr.add; split <;> simp_all
        rw [hadd, hbl.cell (p := ⟨gs, os + j, none⟩) hgs, hsc j hj8, ← hj, encW_get _ _ (by omega)]
      have Hwc := Lib.hid hwc
      have Hsc := Lib.hid hsc
      have Hsrc := Lib.hid hsrc
      have Hbl := Lib.hid hbl
      have Hsl := Lib.hid hsl
      have L8 := Lib.hid hsl8
      clear hwc hsc hsrc hbl hown hs0 hsl hsl8
      go_wp2_with (refine wpList_append_own _ rfl _ _ 55 rfl base 56 i0 (.int .u32 0) 1 4 Try.underlying55 hi0 hz0 hz1 hz2 rfl (by decide) (.slice none 0 0) 0 [] rfl (World.ownsRow_nil _ _ _ _) ⟨gs, os, none⟩ 8 c0 (encW sl) rfl (by rw [encW_length, L8.out]) Hsrc.out (fun u hu => by obtain ⟨b, _, rfl⟩ := List.mem_map.1 hu; rfl) (by unfold maxLen; omega) (by omega) hsz ?_; intro v1 w2 hown2 hgrow2 _)
      have hO2 : OV w2 base 56 v1 (encW sl) := by
        unfold OV
        rw [encW_length, L8.out]
        simpa using hown2
      have hB2 : Below base w w2 := Hbl.out.grown hgrow2 hsz (fun k hk => by cases hk)
      have hw2 : Hid (∀ j, j < 64 → w2.cell? ⟨g1, j, none⟩ = some (.int .u32 ((gw W j).toNat : Int))) := fun j hj => hgrow2.cell (Hwc.out j hj) (by simp [Value.ownBlock])
      have hsz2 : base ≤ w2.heap.size := Nat.le_trans hsz hgrow2.size
      have hg2' : g1 < w2.heap.size := Nat.lt_of_lt_of_le hg2 hgrow2.size
      have HO2 := Lib.hid hO2
      have HB2 := Lib.hid hB2
      clear hown2 hgrow2 hO2 hB2 Hwc Hsrc Hbl
      go_wp2
      go_loopw [9, 10] (fun b q wr => ∃ t : Nat, (q = .int .i64 (t : Int) ∧ t ≤ 64) ∧ OV wr base 56 b (encW (rsf t).list) ∧ Below w2.heap.size w2 wr) (fun _ q _ => 64 - (intOf q).toNat)
      case atStart => exact ⟨0, ⟨rfl, by omega⟩, by rw [Hr0.out, Hsl.out]; exact HO2.out, Below.refl _ _⟩
      case round =>
        clear HO2
        obtain ⟨t, ⟨rfl, ht⟩, hown, hbl⟩ := hrel
        have hl8 : (rsf t).list.length = 8 := rfl
        obtain ⟨gv, cv, rfl, hv1, hv2, hv3, hv4⟩ := hown.form (by rw [encW_length, hl8]; omega)
        rw [encW_length, hl8] at hown hv3 ⊢
        by_cases ht64 : t < 64
        · have v0 := hown.cell 0 (by rw [hl8]; omega)
          have kw := (hbl.cell (p := ⟨g1, t, none⟩) hg2').trans (hw2.out t ht64)
          obtain ⟨m1, ne, m2, cz, a6, a11, x1, a25, T1, u1, u2, u3, u4, n1, n2, o1, n3, mj, a2, a13, x2, a22, T0, u5, a', d', ⟨f1, f2, f3, f4⟩, ⟨f5, f6, f7, f8, f9⟩, ⟨f10, f11, f12, f13⟩, ⟨f14, f15, f16, f17, f18⟩, ⟨f19, f20, f21, f22, f23, f24⟩, ⟨f25, f26⟩, f27⟩ := rrnd_names (rsf t) (kt t) (gw W t)
          rw [← Hrs.out t ht64] at f27
          have tk := fun S hS w => rword_roots S hS t ht64 w
          have c6 : ∀ w, Calls Try.prog 58 #[.int .u32 ((rsf t).e.toNat : Int), .int .i64 6] w fun e w' => e = .returned (.int .u32 ((rr (rsf t).e 6).toNat : Int)) ∧ w' = w := fun w => rright_any _ 6 (by omega) (by omega) w
          have c11 : ∀ w, Calls Try.prog 58 #[.int .u32 ((rsf t).e.toNat : Int), .int .i64 11] w fun e w' => e = .returned (.int .u32 ((rr (rsf t).e 11).toNat : Int)) ∧ w' = w := fun w => rright_any _ 11 (by omega) (by omega) w
          have c25 : ∀ w, Calls Try.prog 58 #[.int .u32 ((rsf t).e.toNat : Int), .int .i64 25] w fun e w' => e = .returned (.int .u32 ((rr (rsf t).e 25).toNat : Int)) ∧ w' = w := fun w => rright_any _ 25 (by omega) (by omega) w
          have c2 : ∀ w, Calls Try.prog 58 #[.int .u32 ((rsf t).a.toNat : Int), .int .i64 2] w fun e w' => e = .returned (.int .u32 ((rr (rsf t).a 2).toNat : Int)) ∧ w' = w := fun w => rright_any _ 2 (by omega) (by omega) w
          have c13 : ∀ w, Calls Try.prog 58 #[.int .u32 ((rsf t).a.toNat : Int), .int .i64 13] w fun e w' => e = .returned (.int .u32 ((rr (rsf t).a 13).toNat : Int)) ∧ w' = w := fun w => rright_any _ 13 (by omega) (by omega) w
          have c22 : ∀ w, Calls Try.prog 58 #[.int .u32 ((rsf t).a.toNat : Int), .int .i64 22] w fun e w' => e = .returned (.int .u32 ((rr (rsf t).a 22).toNat : Int)) ∧ w' = w := fun w => rright_any _ 22 (by omega) (by omega) w
          rw [f5] at c6
          rw [f6] at c11
          rw [f8] at c25
          rw [f19] at c2
          rw [f20] at c13
          rw [f22] at c22
          have v0 : wr.cell? ⟨gv, 0, none⟩ = some (.int .u32 ((rsf t).a.toNat : Int)) := hown.cell 0 (by rw [hl8]; omega)
          have v1 : wr.cell? ⟨gv, 1, none⟩ = some (.int .u32 ((rsf t).b.toNat : Int)) := hown.cell 1 (by rw [hl8]; omega)
          have v2 : wr.cell? ⟨gv, 2, none⟩ = some (.int .u32 ((rsf t).c.toNat : Int)) := hown.cell 2 (by rw [hl8]; omega)
          have v3 : wr.cell? ⟨gv, 3, none⟩ = some (.int .u32 ((rsf t).d.toNat : Int)) := hown.cell 3 (by rw [hl8]; omega)
          have v4 : wr.cell? ⟨gv, 4, none⟩ = some (.int .u32 ((rsf t).e.toNat : Int)) := hown.cell 4 (by rw [hl8]; omega)
          have v5 : wr.cell? ⟨gv, 5, none⟩ = some (.int .u32 ((rsf t).f.toNat : Int)) := hown.cell 5 (by rw [hl8]; omega)
          have v6 : wr.cell? ⟨gv, 6, none⟩ = some (.int .u32 ((rsf t).g.toNat : Int)) := hown.cell 6 (by rw [hl8]; omega)
          have v7 : wr.cell? ⟨gv, 7, none⟩ = some (.int .u32 ((rsf t).h.toNat : Int)) := hown.cell 7 (by rw [hl8]; omega)
          obtain ⟨sa, ha⟩ : ∃ x, (rsf t).a = x := ⟨_, rfl⟩
          obtain ⟨sb, hb⟩ : ∃ x, (rsf t).b = x := ⟨_, rfl⟩
          obtain ⟨sc, hc⟩ : ∃ x, (rsf t).c = x := ⟨_, rfl⟩
          obtain ⟨sd, hd⟩ : ∃ x, (rsf t).d = x := ⟨_, rfl⟩
          obtain ⟨se, he⟩ : ∃ x, (rsf t).e = x := ⟨_, rfl⟩
          obtain ⟨sf, hf⟩ : ∃ x, (rsf t).f = x := ⟨_, rfl⟩
          obtain ⟨sg, hg⟩ : ∃ x, (rsf t).g = x := ⟨_, rfl⟩
          obtain ⟨sh, hh⟩ : ∃ x, (rsf t).h = x := ⟨_, rfl⟩
          obtain ⟨xk, hxk⟩ : ∃ x, kt t = x := ⟨_, rfl⟩
          obtain ⟨xw, hxw⟩ : ∃ x, gw W t = x := ⟨_, rfl⟩
          simp only [ha, hb, hc, hd, he, hf, hg, hh, hxk, hxw] at f1 f2 f3 f10 f12 f13 f14 f15 f17 f26 f27 c6 c11 c25 c2 c13 c22 tk v0 v1 v2 v3 v4 v5 v6 v7 kw
          have hlist : (rsf (t + 1)).list = [a', sa, sb, sc, d', se, sf, sg] := by rw [f27]; rfl
          have C6 := Lib.hid c6
          have C11 := Lib.hid c11
          have C25 := Lib.hid c25
          have C2 := Lib.hid c2
          have C13 := Lib.hid c13
          have C22 := Lib.hid c22
          have TK := Lib.hid tk
          have Hlist := Lib.hid hlist
          have Hbl := Lib.hid hbl
          have w25 := wr_add _ _ _ f25
          have w26 := wr_add _ _ _ f26
          have F := Lib.hid (And.intro f13 (And.intro f24 (And.intro f25 f26)))
          clear f5 f6 f8 f19 f20 f22 f27 c6 c11 c25 c2 c13 c22 tk hlist ha hb hc hd he hf hg hh hxk hxw hbl hown
          go_wp2
          go_quiet (fail)
          go_wp2
          generalize hq1 : wr.drewN _ = wq1
          have V0 : wq1.cell? ⟨gv, 0, none⟩ = some (.int .u32 (sa.toNat : Int)) := by rw [← hq1]; exact v0
          have V1 : wq1.cell? ⟨gv, 1, none⟩ = some (.int .u32 (sb.toNat : Int)) := by rw [← hq1]; exact v1
          have V2 : wq1.cell? ⟨gv, 2, none⟩ = some (.int .u32 (sc.toNat : Int)) := by rw [← hq1]; exact v2
          have V3 : wq1.cell? ⟨gv, 3, none⟩ = some (.int .u32 (sd.toNat : Int)) := by rw [← hq1]; exact v3
          have V4 : wq1.cell? ⟨gv, 4, none⟩ = some (.int .u32 (se.toNat : Int)) := by rw [← hq1]; exact v4
          have V5 : wq1.cell? ⟨gv, 5, none⟩ = some (.int .u32 (sf.toNat : Int)) := by rw [← hq1]; exact v5
          have V6 : wq1.cell? ⟨gv, 6, none⟩ = some (.int .u32 (sg.toNat : Int)) := by rw [← hq1]; exact v6
          have V7 : wq1.cell? ⟨gv, 7, none⟩ = some (.int .u32 (sh.toNat : Int)) := by rw [← hq1]; exact v7
          have KW1 : wq1.cell? ⟨g1, t, none⟩ = some (.int .u32 (xw.toNat : Int)) := by rw [← hq1]; exact kw
          have Hb1 : Hid (Below w2.heap.size w2 wq1) := by rw [← hq1]; exact below_drewN Hbl.out _
          clear hq1 v0 v1 v2 v3 v4 v5 v6 v7 kw Hbl f1 f2 f3 f4
          go_quiet (first | (go_at_call 58; first | with_reducible exact quiet_r (C6.out _) | with_reducible exact quiet_r (C11.out _) | with_reducible exact quiet_r (C25.out _)) | (go_at_call 40; exact quiet_r (TK.out _ (by kernel_rfl) _)))
          go_wp2
          generalize hq : wq1.drewN _ = wq2
          have A0 : wq2.cell? ⟨gv, 0, none⟩ = some (.int .u32 (sa.toNat : Int)) := by rw [← hq]; exact V0
          have A1 : wq2.cell? ⟨gv, 1, none⟩ = some (.int .u32 (sb.toNat : Int)) := by rw [← hq]; exact V1
          have A2 : wq2.cell? ⟨gv, 2, none⟩ = some (.int .u32 (sc.toNat : Int)) := by rw [← hq]; exact V2
          have A3 : wq2.cell? ⟨gv, 3, none⟩ = some (.int .u32 (sd.toNat : Int)) := by rw [← hq]; exact V3
          have A4 : wq2.cell? ⟨gv, 4, none⟩ = some (.int .u32 (se.toNat : Int)) := by rw [← hq]; exact V4
          have A5 : wq2.cell? ⟨gv, 5, none⟩ = some (.int .u32 (sf.toNat : Int)) := by rw [← hq]; exact V5
          have A6 : wq2.cell? ⟨gv, 6, none⟩ = some (.int .u32 (sg.toNat : Int)) := by rw [← hq]; exact V6
          have A7 : wq2.cell? ⟨gv, 7, none⟩ = some (.int .u32 (sh.toNat : Int)) := by rw [← hq]; exact V7
          have Hb2 : Hid (Below w2.heap.size w2 wq2) := by rw [← hq]; exact below_drewN Hb1.out _
          clear hq V0 V1 V2 V3 V4 V5 V6 V7 KW1 Hb1 f7 f9 f10 f11 f12 f13 C6 C11 C25 TK
          go_quiet (fail)
          go_wp2
          generalize hq : wq2.drewN _ = wq3
          have D0 : wq3.cell? ⟨gv, 0, none⟩ = some (.int .u32 (sa.toNat : Int)) := by rw [← hq]; exact A0
          have D1 : wq3.cell? ⟨gv, 1, none⟩ = some (.int .u32 (sb.toNat : Int)) := by rw [← hq]; exact A1
          have D2 : wq3.cell? ⟨gv, 2, none⟩ = some (.int .u32 (sc.toNat : Int)) := by rw [← hq]; exact A2
          have D3 : wq3.cell? ⟨gv, 3, none⟩ = some (.int .u32 (sd.toNat : Int)) := by rw [← hq]; exact A3
          have D4 : wq3.cell? ⟨gv, 4, none⟩ = some (.int .u32 (se.toNat : Int)) := by rw [← hq]; exact A4
          have D5 : wq3.cell? ⟨gv, 5, none⟩ = some (.int .u32 (sf.toNat : Int)) := by rw [← hq]; exact A5
          have D6 : wq3.cell? ⟨gv, 6, none⟩ = some (.int .u32 (sg.toNat : Int)) := by rw [← hq]; exact A6
          have D7 : wq3.cell? ⟨gv, 7, none⟩ = some (.int .u32 (sh.toNat : Int)) := by rw [← hq]; exact A7
          have Hb3 : Hid (Below w2.heap.size w2 wq3) := by rw [← hq]; exact below_drewN Hb2.out _
          clear hq A0 A1 A2 A3 A4 A5 A6 A7 Hb2 f14 f15 f16 f17 f18
          go_quiet (first | (go_at_call 58; first | with_reducible exact quiet_r (C2.out _) | with_reducible exact quiet_r (C13.out _) | with_reducible exact quiet_r (C22.out _)))
          go_wp2
          generalize hq : wq3.drewN _ = wq4
          have E0 : wq4.cell? ⟨gv, 0, none⟩ = some (.int .u32 (sa.toNat : Int)) := by rw [← hq]; exact D0
          have E1 : wq4.cell? ⟨gv, 1, none⟩ = some (.int .u32 (sb.toNat : Int)) := by rw [← hq]; exact D1
          have E2 : wq4.cell? ⟨gv, 2, none⟩ = some (.int .u32 (sc.toNat : Int)) := by rw [← hq]; exact D2
          have E3 : wq4.cell? ⟨gv, 3, none⟩ = some (.int .u32 (sd.toNat : Int)) := by rw [← hq]; exact D3
          have E4 : wq4.cell? ⟨gv, 4, none⟩ = some (.int .u32 (se.toNat : Int)) := by rw [← hq]; exact D4
          have E5 : wq4.cell? ⟨gv, 5, none⟩ = some (.int .u32 (sf.toNat : Int)) := by rw [← hq]; exact D5
          have E6 : wq4.cell? ⟨gv, 6, none⟩ = some (.int .u32 (sg.toNat : Int)) := by rw [← hq]; exact D6
          have E7 : wq4.cell? ⟨gv, 7, none⟩ = some (.int .u32 (sh.toNat : Int)) := by rw [← hq]; exact D7
          have Hb4 : Hid (Below w2.heap.size w2 wq4) := by rw [← hq]; exact below_drewN Hb3.out _
          have hs4 : base ≤ wq4.heap.size := Nat.le_trans hsz2 Hb4.out.size
          clear hq D0 D1 D2 D3 D4 D5 D6 D7 Hb3 f21 f23 f24 C2 C13 C22
          go_region_held3 (fun w' => w'.cell? ⟨gv, 0, none⟩ = some (.int .u32 (sa.toNat : Int)) ∧ w'.cell? ⟨gv, 1, none⟩ = some (.int .u32 (sb.toNat : Int)) ∧ w'.cell? ⟨gv, 2, none⟩ = some (.int .u32 (sc.toNat : Int)) ∧ w'.cell? ⟨gv, 3, none⟩ = some (.int .u32 (sd.toNat : Int)) ∧ w'.cell? ⟨gv, 4, none⟩ = some (.int .u32 (se.toNat : Int)) ∧ w'.cell? ⟨gv, 5, none⟩ = some (.int .u32 (sf.toNat : Int)) ∧ w'.cell? ⟨gv, 6, none⟩ = some (.int .u32 (sg.toNat : Int))) (first | exact ⟨E0, E1, E2, E3, E4, E5, E6⟩ | exact ⟨Lib.cell?_alloc_some _ E0, Lib.cell?_alloc_some _ E1, Lib.cell?_alloc_some _ E2, Lib.cell?_alloc_some _ E3, Lib.cell?_alloc_some _ E4, Lib.cell?_alloc_some _ E5, Lib.cell?_alloc_some _ E6⟩ | go_keep) (fail)
          go_wp2
          obtain ⟨g13, g24, g25, g26⟩ := F.out
          rw [g13, g24, g25, g26]
          refine ⟨⟨t + 1, ⟨by go_num, by omega⟩, ?_, (Hb4.out.alloc Hb4.out.size _).drew⟩, by simp [intOf]; omega⟩
          rw [Hlist.out]
          exact OV.mono (OV.lit wq4 _ 56 (encW [a', sa, sb, sc, d', se, sf, sg]) (by simp [encW]) rfl) hs4
        · obtain rfl : t = 64 := by omega
          have hbw := HB2.out.trans (hbl.mono hsz2)
          have hol : out.length = 8 := by rw [← Hout.out]; rfl
          have hadd : ∀ j, j < 8 → gw out j = gw sl j + gw (rsf 64).list j := by
            intro j hj
            have hj' : j = 0 ∨ j = 1 ∨ j = 2 ∨ j = 3 ∨ j = 4 ∨ j = 5 ∨ j = 6 ∨ j = 7 := by omega
            rw [← Hout.out, ← Hsl.out]
            rcases hj' with rfl | rfl | rfl | rfl | rfl | rfl | rfl | rfl <;> rfl
          obtain ⟨vl, hvl⟩ : ∃ vl, (rsf 64).list = vl := ⟨_, rfl⟩
          rw [hvl] at hown hadd hl8
          have Hown := Lib.hid hown
          have Hbw := Lib.hid hbw
          have Hadd := Lib.hid hadd
          have Lo := Lib.hid hol
          have Lv := Lib.hid hl8
          clear hown hbw hadd hol hl8 hvl hbl
          go_wp2
          go_loopw [234] (fun q wx => ∃ j : Nat, (q = .int .i64 (j : Int) ∧ j ≤ 8) ∧ OV wx base 56 (.slice (some ⟨gv, 0, none⟩) 8 cv) (encW (out.take j ++ vl.drop j)) ∧ Below base w wx) (fun q _ => 8 - (intOf q).toNat)
          case atStart => exact ⟨0, ⟨rfl, by omega⟩, by rw [List.take_zero, List.drop_zero]; exact Hown.out, Hbw.out⟩
          case round =>
            clear Hown Hbw
            obtain ⟨j, ⟨rfl, hj⟩, hown, hbw⟩ := hrel
            have hml : (out.take j ++ vl.drop j).length = 8 := by rw [List.length_append, List.length_take, List.length_drop, Lo.out, Lv.out]; omega
            by_cases hj8 : j < 8
            · have kv := hown.cell j (by rw [hml]; exact hj8)
              rw [mix_get out vl j (by rw [Lo.out]; exact hj8) (by rw [Lv.out]; exact hj8)] at kv
              have ks := (hbw.cell (p := ⟨gs, os + j, none⟩) hgs).trans (Hsc.out j hj8)
              have kf := hown.frozen (by rw [encW_length, hml]) j
              have hz := Hadd.out j hj8
              have hset := fun z => hown.set j (.int .u32 (z : Int)) (by rw [encW_length, hml]; exact hj8)
              have hms := mix_set out vl j (by rw [Lo.out]; exact hj8) (by rw [Lv.out]; exact hj8)
              obtain ⟨xv, hxv⟩ : ∃ x, gw vl j = x := ⟨_, rfl⟩
              obtain ⟨xs, hxs⟩ : ∃ x, gw sl j = x := ⟨_, rfl⟩
              rw [hxv] at kv hz
              rw [hxs] at ks hz
              obtain ⟨z, hz1, z2, z3⟩ := add_names xv xs
              rw [BitVec.add_comm, hz1] at hz
              rw [hz] at hms
              have hs2 := hset (z.toNat : Int)
              rw [encW_set, hms] at hs2
              have HS := Lib.hid (fun n => (show OV ((wr.drewN n).setCell ⟨gv, j, none⟩ (.int .u32 (z.toNat : Int))) base 56 (.slice (some ⟨gv, 0, none⟩) 8 cv) (encW (out.take (j + 1) ++ vl.drop (j + 1))) from by
                have h0 : OV (wr.drewN n) base 56 (.slice (some ⟨gv, 0, none⟩) 8 cv) (encW (out.take j ++ vl.drop j)) := hown
                have h1 := h0.set j (.int .u32 (z.toNat : Int)) (by rw [encW_length, hml]; exact hj8)
                rwa [encW_set, hms] at h1))
              have HBs := Lib.hid (fun n => below_setCell (below_drewN hbw n) ⟨gv, j, none⟩ hv1 (.int .u32 (z.toNat : Int)))
              clear hown hbw hz hset hms hxv hxs hz1 hs2 hml
              go_wp2
              go_region
              go_wp2
              exact ⟨⟨j + 1, ⟨by go_num, by omega⟩, HS.out _, HBs.out _⟩, by simp [intOf]; omega⟩
            · obtain rfl : j = 8 := by omega
              rw [List.take_of_length_le (by rw [Lo.out]; exact Nat.le_refl _), List.drop_of_length_le (by rw [Lv.out]; exact Nat.le_refl _), List.append_nil] at hown
              have Hown := Lib.hid hown
              have Hbw := Lib.hid hbw
              clear hown hbw hml
              go_wp2
              go_ret
              exact ⟨_, rfl, by rw [hbase]; exact Hown.out, by rw [hbase]; exact Hbw.out⟩
theorem rs_step' (w : List (BitVec 32)) (s : St) (t : Nat) : rs w s (t + 1) = rnd (rs w s t) (kt t) (gw w t) := rfl
/-- **the reference's block** -/
theorem rone_any (s : St) (blk : List UInt8) (v0 v : Value) (w : World) (hst : SL w v0 (encW s.list)) (hv : SB w v blk) (h64 : 64 ≤ blk.length) (hmax : blk.length ≤ 1000000) :
    Calls Try.prog 41 #[v0, v] w fun e w' => ∃ v', e = .returned v' ∧ OV w' w.heap.size 56 v' (encW (blockS s blk).list) ∧ Below w.heap.size w w' :=
  rone_gen s blk (ws blk 64) (ws_length _ _) (gW_low blk) (gW_high blk) (rs (ws blk 64) s) rfl (fun t _ => rs_step' _ s t) (blockS s blk).list rfl v0 v w hst hv h64 hmax
end Go.Proofs.Ytkipnhhdlohnfaa

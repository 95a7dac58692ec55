/- digest's block. -/
import Derived.RangeFuncNested
import Derived.RangeFuncBound
import Derived.RangeFuncCalls
import Derived.RangeFuncLeaves
import Derived.Shelf.Abstract
import Derived.Shelf.RegionOpen
import Derived.WalkKit
import Derived.OwnWalkIn
import Derived.TacticsInMore
import Derived.LoopNIn
import Derived.LoopIn
import Derived.Outline
import Derived.Lib.Hide
import Derived.Lib.SliceRun
import Derived.IntWalk
import Derived.WalkLawsBesides
import Derived.WalkSpells
import Derived.Laws.BitsAllLaws
import Derived.Lib.ConvBytes
import Derived.Maps.AppendAt
import Derived.Lib.AppendStr
import Derived.Lib.SlBytesConst
import Derived.Laws.AppendOwnNone
import Derived.Laws.OwnMore
import Derived.Laws.BytesArg
import Derived.Deep.RegionHeld3
import Derived.BigQuiet
import Derived.Deep.RegionLaw
import Derived.Deep.QuietTactic
import Derived.Test.YtkipnhhdlohnfaaProg
import Derived.Test.YtkipnhhdlohnfaaDgD
set_option linter.unusedVariables false
set_option linter.unusedSimpArgs false
namespace Go.Proofs.Ytkipnhhdlohnfaa
open Go Go.RowKit Go.Shelf

theorem ws_prefix (blk : List UInt8) (t s j : Nat) (h : j < t) (hs : t ≤ s) : gw (ws blk t) j = gw (ws blk s) j := by
  unfold gw
  rw [ws_get blk j t h, ws_get blk j s (by omega)]
theorem gW_at (blk : List UInt8) (t : Nat) (h : t < 64) : gw (ws blk 64) t = wt blk (ws blk t) t := by
  unfold gw; rw [ws_get blk t 64 h]; rfl
theorem gW_low (blk : List UInt8) (t : Nat) (h : t < 16) : gw (ws blk 64) t = be4 blk t := by
  rw [gW_at blk t (by omega), wt, if_pos h]
theorem gW_high (blk : List UInt8) (t : Nat) (h0 : ¬ t < 16) (h : t < 64) :
    gw (ws blk 64) t = gw (ws blk 64) (t - 16) + low (gw (ws blk 64) (t - 15)) + gw (ws blk 64) (t - 7) + high (gw (ws blk 64) (t - 2)) := by
  rw [gW_at blk t h, wt, if_neg h0, ws_prefix blk t 64 (t - 16) (by omega) (by omega), ws_prefix blk t 64 (t - 15) (by omega) (by omega), ws_prefix blk t 64 (t - 7) (by omega) (by omega), ws_prefix blk t 64 (t - 2) (by omega) (by omega)]
theorem g8_gb (l : List UInt8) (i : Nat) : ((g8 l i).toNat : Int) = (gb l i : Int) := by
  unfold g8 gb
  have := ((l[i]?).getD 0).toNat_lt
  rw [BitVec.toNat_ofNat]; omega
theorem part_get (L : List (BitVec 32)) (i j : Nat) (h : j < i) (hi : i ≤ L.length) : gw (part L i) j = gw L j := by
  unfold gw part
  rw [List.getElem?_append_left (by simp; omega), List.getElem?_take_of_lt h]
theorem part_hole (L : List (BitVec 32)) (i : Nat) (h : i < L.length) : gw (part L i) i = 0 := by
  unfold gw part
  rw [List.getElem?_append_right (by simp; omega), List.getElem?_replicate]
  split <;> rfl
theorem set_hole (L : List (BitVec 32)) (i : Nat) (h : i < L.length) : (part L i).set i 0 = part L i := by
  have hl : i < (part L i).length := by rw [part_length _ _ (by omega)]; exact h
  have e : (part L i)[i] = 0 := by
    have := part_hole L i h
    unfold gw at this
    rwa [List.getElem?_eq_getElem hl] at this
  rw [← e]; exact List.set_getElem_self hl
theorem g8_shift (x : BitVec 32) (l : List UInt8) (i : Nat) : bits BinOp.or IntKind.u32 ((x.toNat : Int) * 256 % 4294967296) ((gb l i : Int) % 4294967296) = ((x <<< 8 ||| g8 l i).toNat : Int) := by
  have h := gb_lt l i
  rw [show (gb l i : Int) % 4294967296 = (gb l i : Int) by omega, ← bv_or, ← bv_shl, g8_gb]; rfl

theorem low_names (x : BitVec 32) : ∃ a b z l : BitVec 32, rr x 7 = a ∧ rr x 18 = b ∧ bits BinOp.xor IntKind.u32 (a.toNat : Int) (b.toNat : Int) = (z.toNat : Int) ∧ bits BinOp.xor IntKind.u32 (z.toNat : Int) ((x.toNat : Int) / 8) = (l.toNat : Int) ∧ low x = l :=
  ⟨_, _, _, _, rfl, rfl, bv_xor _ _, by rw [show (x.toNat : Int) / 8 = (x.toNat : Int) / 2 ^ 3 from rfl, bv_shr, bv_xor]; rfl, rfl⟩
theorem high_names (x : BitVec 32) : ∃ a b z l : BitVec 32, rr x 17 = a ∧ rr x 19 = b ∧ bits BinOp.xor IntKind.u32 (a.toNat : Int) (b.toNat : Int) = (z.toNat : Int) ∧ bits BinOp.xor IntKind.u32 (z.toNat : Int) ((x.toNat : Int) / 1024) = (l.toNat : Int) ∧ high x = l :=
  ⟨_, _, _, _, rfl, rfl, bv_xor _ _, by rw [show (x.toNat : Int) / 1024 = (x.toNat : Int) / 2 ^ 10 from rfl, bv_shr, bv_xor]; rfl, rfl⟩
theorem add_names (x y : BitVec 32) : ∃ z : BitVec 32, x + y = z ∧ ((x.toNat : Int) + (y.toNat : Int)) % 4294967296 = (z.toNat : Int) ∧ IntKind.u32.wrap ((x.toNat : Int) + (y.toNat : Int)) = (z.toNat : Int) :=
  ⟨_, rfl, bv_add _ _, by rw [IntKind.wrap_u32]; exact bv_add _ _⟩
theorem rnd_names (s : St) (k w : BitVec 32) : ∃ T1 u1 c1 c2 c3 u2 u3 u4 T0 m1 m2 m3 m4 u5 d' a' : BitVec 32,
    tri s.e 6 11 25 = T1 ∧ ((s.h.toNat : Int) + (T1.toNat : Int)) % 4294967296 = (u1.toNat : Int) ∧ bits BinOp.xor IntKind.u32 (s.f.toNat : Int) (s.g.toNat : Int) = (c1.toNat : Int) ∧ bits BinOp.and IntKind.u32 (s.e.toNat : Int) (c1.toNat : Int) = (c2.toNat : Int) ∧
    bits BinOp.xor IntKind.u32 (s.g.toNat : Int) (c2.toNat : Int) = (c3.toNat : Int) ∧ ((u1.toNat : Int) + (c3.toNat : Int)) % 4294967296 = (u2.toNat : Int) ∧ ((u2.toNat : Int) + (k.toNat : Int)) % 4294967296 = (u3.toNat : Int) ∧ ((u3.toNat : Int) + (w.toNat : Int)) % 4294967296 = (u4.toNat : Int) ∧
    tri s.a 2 13 22 = T0 ∧ bits BinOp.and IntKind.u32 (s.a.toNat : Int) (s.b.toNat : Int) = (m1.toNat : Int) ∧ bits BinOp.or IntKind.u32 (s.a.toNat : Int) (s.b.toNat : Int) = (m2.toNat : Int) ∧ bits BinOp.and IntKind.u32 (s.c.toNat : Int) (m2.toNat : Int) = (m3.toNat : Int) ∧
    bits BinOp.or IntKind.u32 (m1.toNat : Int) (m3.toNat : Int) = (m4.toNat : Int) ∧ ((T0.toNat : Int) + (m4.toNat : Int)) % 4294967296 = (u5.toNat : Int) ∧ ((s.d.toNat : Int) + (u4.toNat : Int)) % 4294967296 = (d'.toNat : Int) ∧ ((u4.toNat : Int) + (u5.toNat : Int)) % 4294967296 = (a'.toNat : Int) ∧
    rnd s k w = ⟨a', s.a, s.b, s.c, d', s.e, s.f, s.g⟩ :=
  ⟨_, _, _, _, _, _, _, _, _, _, _, _, _, _, _, _, rfl, bv_add _ _, bv_xor _ _, bv_and _ _, bv_xor _ _, bv_add _ _, bv_add _ _, bv_add _ _, rfl, bv_and _ _, bv_or _ _, bv_and _ _, bv_or _ _, bv_add _ _, bv_add _ _, bv_add _ _, rfl⟩
theorem quiet_r {P : Program} {f : FuncId} {args : Array Value} {w : World} {n : Nat} {v : Value}
    (h : Calls P f args (w.drewN n) fun e w' => e = .returned v ∧ w' = w.drewN n) : Calls P f args (w.drewN n) fun e w'' => e = .returned v ∧ ∃ m, w'' = w.drewN m :=
  h.mono fun _ _ ⟨he, hm⟩ => ⟨he, n, hm⟩
theorem St.ext8 {s : St} {a b c d e f g h : BitVec 32} (hs : s = ⟨a, b, c, d, e, f, g, h⟩) : s.a = a ∧ s.b = b ∧ s.c = c ∧ s.d = d ∧ s.e = e ∧ s.f = f ∧ s.g = g ∧ s.h = h := by subst hs; exact ⟨rfl, rfl, rfl, rfl, rfl, rfl, rfl, rfl⟩
theorem mix_get (a b : List (BitVec 32)) (i : Nat) (ha : i < a.length) (hb : i < b.length) : gw (a.take i ++ b.drop i) i = gw b i := by
  unfold gw
  rw [List.getElem?_append_right (by simp; omega), List.length_take, show i - min i a.length = 0 by omega, List.getElem?_drop]
  rfl
theorem mix_set (a b : List (BitVec 32)) (i : Nat) (ha : i < a.length) (hb : i < b.length) : (a.take i ++ b.drop i).set i (gw a i) = a.take (i + 1) ++ b.drop (i + 1) := by
  rw [List.set_append_right _ _ (by simp; omega), List.length_take, show i - min i a.length = 0 by omega, List.drop_eq_getElem_cons hb, List.set_cons_zero, List.take_succ_eq_append_getElem ha, List.append_assoc]
  unfold gw
  rw [List.getElem?_eq_getElem ha]
  rfl
/-- what block keeps: the state, the result's room, the words -/
def BL (w wr : World) (B0 B1 B2 : Nat) (s x : List (BitVec 32)) : Prop := Row wr B0 63 (encW s) ∧ Row wr B1 63 (encW (List.replicate 8 0)) ∧ Row wr B2 60 (encW x) ∧ Below B0 w wr ∧ B0 < B1 ∧ B1 < B2
theorem BL.put {w wr : World} {B0 B1 B2 : Nat} {s x : List (BitVec 32)} (h : BL w wr B0 B1 B2 s x) (i : Nat) (y : BitVec 32) : BL w (wr.setCell ⟨B2, i, none⟩ (.int .u32 (y.toNat : Int))) B0 B1 B2 s (x.set i y) := by
  obtain ⟨h0, h1, h2, hb, a, b⟩ := h
  refine ⟨h0.other _ _ (by simp; omega), h1.other _ _ (by simp; omega), ?_, below_setCell hb _ (by simp; omega) _, a, b⟩
  rw [← encW_set]; exact h2.set i _
theorem BL.putS {w wr : World} {B0 B1 B2 : Nat} {s x : List (BitVec 32)} (h : BL w wr B0 B1 B2 s x) (i : Nat) (y : BitVec 32) : BL w (wr.setCell ⟨B0, i, none⟩ (.int .u32 (y.toNat : Int))) B0 B1 B2 (s.set i y) x := by
  obtain ⟨h0, h1, h2, hb, a, b⟩ := h
  refine ⟨?_, h1.other _ _ (by simp; omega), h2.other _ _ (by simp; omega), below_setCell hb _ (by simp) _, a, b⟩
  rw [← encW_set]; exact h0.set i _
theorem BL.cellW {w wr : World} {B0 B1 B2 : Nat} {s x : List (BitVec 32)} (h : BL w wr B0 B1 B2 s x) (i : Nat) (hi : i < x.length) : wr.cell? ⟨B2, i, none⟩ = some (.int .u32 ((gw x i).toNat : Int)) := by
  rw [h.2.2.1.cell i, encW_get _ _ hi]
theorem BL.cellS {w wr : World} {B0 B1 B2 : Nat} {s x : List (BitVec 32)} (h : BL w wr B0 B1 B2 s x) (i : Nat) (hi : i < s.length) : wr.cell? ⟨B0, i, none⟩ = some (.int .u32 ((gw s i).toNat : Int)) := by
  rw [h.1.cell i, encW_get _ _ hi]
theorem BL.drewN {w wr : World} {B0 B1 B2 : Nat} {s x : List (BitVec 32)} (h : BL w wr B0 B1 B2 s x) (n : Nat) : BL w (wr.drewN n) B0 B1 B2 s x := by
  obtain ⟨h0, h1, h2, hb, a⟩ := h
  exact ⟨h0, h1, h2, below_drewN hb n, a⟩
theorem BL.drew {w wr : World} {B0 B1 B2 : Nat} {s x : List (BitVec 32)} (h : BL w wr B0 B1 B2 s x) : BL w wr.drew B0 B1 B2 s x := by
  obtain ⟨h0, h1, h2, hb, a⟩ := h
  exact ⟨h0, h1, h2, hb.drew, a⟩

set_option maxRecDepth 100000 in
set_option maxHeartbeats 400000 in
/-- digest's block: W its words, K the rounds' numbers -/
theorem block_gen (s : St) (blk : List UInt8) (W K : List (BitVec 32)) (hW : W.length = 64) (hlow : ∀ t, t < 16 → gw W t = be4 blk t) (hhigh : ∀ t, ¬ t < 16 → t < 64 → gw W t = gw W (t - 16) + low (gw W (t - 15)) + gw W (t - 7) + high (gw W (t - 2)))
    (rsf : Nat → St) (hr0 : rsf 0 = s) (hrs : ∀ t, t < 64 → rsf (t + 1) = rnd (rsf t) (gw K t) (gw W t)) (hK : K.length = 64) (sl : List (BitVec 32)) (hsl : s.list = sl) (out : List (BitVec 32)) (hout : (s.plus (rsf 64)).list = out)
    (v : Value) (kb : Nat) (w : World) (hk : Row w kb 60 (encW K)) (hv : SB w v blk) (h64 : 64 ≤ blk.length) :
    Calls Try.prog 44 #[.agg (encW sl).toArray, v, .pointer (some ⟨kb, 0, none⟩)] w fun e w' => e = .returned (.agg (encW out).toArray) ∧ Below w.heap.size w w' := by
  obtain ⟨A, c, rfl, hc1, hc2, hcell⟩ := hv.form
  obtain ⟨g, o, rfl, hb⟩ := hcell (by omega)
  have hkl := hk.lt
  have hbl : BL w (((w.alloc (.cells (encW sl).toArray 63)).alloc (.cells #[.int .u32 0, .int .u32 0, .int .u32 0, .int .u32 0, .int .u32 0, .int .u32 0, .int .u32 0, .int .u32 0] 63)).alloc (.cells #[.int .u32 0, .int .u32 0, .int .u32 0, .int .u32 0, .int .u32 0, .int .u32 0, .int .u32 0, .int .u32 0, .int .u32 0, .int .u32 0, .int .u32 0, .int .u32 0, .int .u32 0, .int .u32 0, .int .u32 0, .int .u32 0, .int .u32 0, .int .u32 0, .int .u32 0, .int .u32 0, .int .u32 0, .int .u32 0, .int .u32 0, .int .u32 0, .int .u32 0, .int .u32 0, .int .u32 0, .int .u32 0, .int .u32 0, .int .u32 0, .int .u32 0, .int .u32 0, .int .u32 0, .int .u32 0, .int .u32 0, .int .u32 0, .int .u32 0, .int .u32 0, .int .u32 0, .int .u32 0, .int .u32 0, .int .u32 0, .int .u32 0, .int .u32 0, .int .u32 0, .int .u32 0, .int .u32 0, .int .u32 0, .int .u32 0, .int .u32 0, .int .u32 0, .int .u32 0, .int .u32 0, .int .u32 0, .int .u32 0, .int .u32 0, .int .u32 0, .int .u32 0, .int .u32 0, .int .u32 0, .int .u32 0, .int .u32 0, .int .u32 0, .int .u32 0] 60)) w.heap.size (w.heap.size + 1) (w.heap.size + 1 + 1) sl (part W 0) := by
    have e1 : (w.alloc (.cells (encW sl).toArray 63)).heap.size = w.heap.size + 1 := by show (w.heap.push _).size = _; simp
    have e2 : ((w.alloc (.cells (encW sl).toArray 63)).alloc (.cells #[.int .u32 0, .int .u32 0, .int .u32 0, .int .u32 0, .int .u32 0, .int .u32 0, .int .u32 0, .int .u32 0] 63)).heap.size = w.heap.size + 1 + 1 := by show ((w.alloc _).heap.push _).size = _; rw [Array.size_push, e1]
    have r0 := ((Row.new w (encW sl).toArray 63).alloc (.cells #[.int .u32 0, .int .u32 0, .int .u32 0, .int .u32 0, .int .u32 0, .int .u32 0, .int .u32 0, .int .u32 0] 63)).alloc (.cells #[.int .u32 0, .int .u32 0, .int .u32 0, .int .u32 0, .int .u32 0, .int .u32 0, .int .u32 0, .int .u32 0, .int .u32 0, .int .u32 0, .int .u32 0, .int .u32 0, .int .u32 0, .int .u32 0, .int .u32 0, .int .u32 0, .int .u32 0, .int .u32 0, .int .u32 0, .int .u32 0, .int .u32 0, .int .u32 0, .int .u32 0, .int .u32 0, .int .u32 0, .int .u32 0, .int .u32 0, .int .u32 0, .int .u32 0, .int .u32 0, .int .u32 0, .int .u32 0, .int .u32 0, .int .u32 0, .int .u32 0, .int .u32 0, .int .u32 0, .int .u32 0, .int .u32 0, .int .u32 0, .int .u32 0, .int .u32 0, .int .u32 0, .int .u32 0, .int .u32 0, .int .u32 0, .int .u32 0, .int .u32 0, .int .u32 0, .int .u32 0, .int .u32 0, .int .u32 0, .int .u32 0, .int .u32 0, .int .u32 0, .int .u32 0, .int .u32 0, .int .u32 0, .int .u32 0, .int .u32 0, .int .u32 0, .int .u32 0, .int .u32 0, .int .u32 0] 60)
    have r1 := (Row.new (w.alloc (.cells (encW sl).toArray 63)) #[.int .u32 0, .int .u32 0, .int .u32 0, .int .u32 0, .int .u32 0, .int .u32 0, .int .u32 0, .int .u32 0] 63).alloc (.cells #[.int .u32 0, .int .u32 0, .int .u32 0, .int .u32 0, .int .u32 0, .int .u32 0, .int .u32 0, .int .u32 0, .int .u32 0, .int .u32 0, .int .u32 0, .int .u32 0, .int .u32 0, .int .u32 0, .int .u32 0, .int .u32 0, .int .u32 0, .int .u32 0, .int .u32 0, .int .u32 0, .int .u32 0, .int .u32 0, .int .u32 0, .int .u32 0, .int .u32 0, .int .u32 0, .int .u32 0, .int .u32 0, .int .u32 0, .int .u32 0, .int .u32 0, .int .u32 0, .int .u32 0, .int .u32 0, .int .u32 0, .int .u32 0, .int .u32 0, .int .u32 0, .int .u32 0, .int .u32 0, .int .u32 0, .int .u32 0, .int .u32 0, .int .u32 0, .int .u32 0, .int .u32 0, .int .u32 0, .int .u32 0, .int .u32 0, .int .u32 0, .int .u32 0, .int .u32 0, .int .u32 0, .int .u32 0, .int .u32 0, .int .u32 0, .int .u32 0, .int .u32 0, .int .u32 0, .int .u32 0, .int .u32 0, .int .u32 0, .int .u32 0, .int .u32 0] 60)
    have r2 := Row.new ((w.alloc (.cells (encW sl).toArray 63)).alloc (.cells #[.int .u32 0, .int .u32 0, .int .u32 0, .int .u32 0, .int .u32 0, .int .u32 0, .int .u32 0, .int .u32 0] 63)) #[.int .u32 0, .int .u32 0, .int .u32 0, .int .u32 0, .int .u32 0, .int .u32 0, .int .u32 0, .int .u32 0, .int .u32 0, .int .u32 0, .int .u32 0, .int .u32 0, .int .u32 0, .int .u32 0, .int .u32 0, .int .u32 0, .int .u32 0, .int .u32 0, .int .u32 0, .int .u32 0, .int .u32 0, .int .u32 0, .int .u32 0, .int .u32 0, .int .u32 0, .int .u32 0, .int .u32 0, .int .u32 0, .int .u32 0, .int .u32 0, .int .u32 0, .int .u32 0, .int .u32 0, .int .u32 0, .int .u32 0, .int .u32 0, .int .u32 0, .int .u32 0, .int .u32 0, .int .u32 0, .int .u32 0, .int .u32 0, .int .u32 0, .int .u32 0, .int .u32 0, .int .u32 0, .int .u32 0, .int .u32 0, .int .u32 0, .int .u32 0, .int .u32 0, .int .u32 0, .int .u32 0, .int .u32 0, .int .u32 0, .int .u32 0, .int .u32 0, .int .u32 0, .int .u32 0, .int .u32 0, .int .u32 0, .int .u32 0, .int .u32 0, .int .u32 0] 60
    rw [e1] at r1
    rw [e2] at r2
    refine ⟨r0, r1, ?_, (((Below.refl _ w).alloc (Nat.le_refl _) _).alloc (by omega) _).alloc (by omega) _, by omega, by omega⟩
    rw [part_zero, hW]; exact r2
  obtain ⟨B0, hB0⟩ : ∃ B0, w.heap.size = B0 := ⟨_, rfl⟩
  rw [hB0] at hbl
  obtain ⟨B1, hB1⟩ : ∃ B1, B0 + 1 = B1 := ⟨_, rfl⟩
  rw [hB1] at hbl
  obtain ⟨B2, hB2⟩ : ∃ B2, B1 + 1 = B2 := ⟨_, rfl⟩
  rw [hB2] at hbl
  have HBL := Lib.hid hbl
  have Hk := Lib.hid hk
  have Hb := Lib.hid hb
  have Hkl := Lib.hid hkl
  have HB1 := Lib.hid hB1
  have HB2 := Lib.hid hB2
  have hgl : Hid (g < B0) := by rw [← hB0]; exact World.block_lt_of_cell? w _ (hb 0 (by omega))
  have Hlow := Lib.hid hlow
  have Hhigh := Lib.hid hhigh
  have Hr0 := Lib.hid hr0
  have Hrs := Lib.hid hrs
  have Hsl := Lib.hid hsl
  have Hout := Lib.hid hout
  clear hk hv hb hcell hkl hbl hB1 hB2 hlow hhigh hr0 hrs hsl hout
  go_enter Try.func44, Try.ntmps44
  go_wp2_with fail
  rw [HB1.out, HB2.out]
  clear HB1 HB2
  go_loopw [28] (fun q wr => ∃ i : Nat, q = .int .i64 (i : Int) ∧ i ≤ 64 ∧ BL w wr B0 B1 B2 sl (part W i)) (fun q _ => 64 - (intOf q).toNat)
  case atStart => exact ⟨0, rfl, by omega, HBL.out⟩
  case round =>
    clear HBL
    obtain ⟨i, rfl, hi, hbl⟩ := hrel
    have HBL := Lib.hid hbl
    clear hbl
    by_cases hlt : i < 64
    · by_cases h16 : i < 16
      · have m1 : IntKind.i64.wrap (4 * (i : Int)) = 4 * (i : Int) := IntWalk.i64_in _ (by omega)
        have m2 : IntKind.i64.wrap (4 * (i : Int) + 4) = 4 * (i : Int) + 4 := IntWalk.i64_in _ (by omega)
        have hsr := slice_run2 (some ⟨g, o, none⟩) blk.length c (4 * i) (4 * i + 4) (by omega) (by omega) (4 * (i : Int)) (4 * (i : Int) + 4) (by omega) (by omega) 4 (c - 4 * i) (by omega) rfl
        have hcut : cutA (some ⟨g, o, none⟩) c (4 * i) = some ⟨g, o + 4 * i, none⟩ := by
          unfold cutA; rw [if_neg (by omega)]; unfold Addr.add; split <;> simp_all
        rw [hcut] at hsr
        obtain ⟨o4, ho4⟩ : ∃ o4, o + 4 * i = o4 := ⟨_, rfl⟩
        rw [ho4] at hsr
        have Ho4 := Lib.hid ho4
        clear hcut ho4
        go_wp2_with fail
        go_loopw [41] (fun q wr => ∃ j : Nat, q = .int .i64 (j : Int) ∧ j ≤ 4 ∧ BL w wr B0 B1 B2 sl ((part W i).set i (be4at blk i j))) (fun q _ => 4 - (intOf q).toNat)
        case atStart => exact ⟨0, rfl, by omega, by rw [be4at, set_hole _ _ (by rw [hW]; omega)]; exact HBL.out⟩
        case round =>
          clear HBL
          obtain ⟨j, rfl, hj, hbl⟩ := hrel
          by_cases hj4 : j < 4
          · have hpl : i < ((part W i).set i (be4at blk i j)).length := by rw [List.length_set, part_length _ _ (by omega)]; omega
            have k0 : wr.cell? ⟨B2, i, none⟩ = some (.int .u32 ((be4at blk i j).toNat : Int)) := by
              have := hbl.cellW i hpl
              rw [this]; unfold gw; rw [List.getElem?_set_self (by rw [List.length_set] at hpl; exact hpl)]; rfl
            have k1 : wr.frozen? ⟨B2, i, none⟩ = false := hbl.2.2.1.frozen i
            have k2 : wr.cell? ⟨g, o4 + j, none⟩ = some (.int .u8 (gb blk (4 * i + j) : Int)) := by
              rw [hbl.2.2.2.1.cell (p := ⟨g, o4 + j, none⟩) hgl.out, ← Ho4.out, Nat.add_assoc]; exact Hb.out (4 * i + j) (by omega)
            have k3 := g8_shift (be4at blk i j) blk (4 * i + j)
            have k4 : be4at blk i j <<< 8 ||| g8 blk (4 * i + j) = be4at blk i (j + 1) := rfl
            rw [k4] at k3
            have HBL1 := Lib.hid (hbl.put i (be4at blk i (j + 1)))
            clear hbl hpl k4
            obtain ⟨x, hx⟩ : ∃ x, be4at blk i j = x := ⟨_, rfl⟩
            rw [hx] at k0 k3
            obtain ⟨y, hy⟩ : ∃ y, be4at blk i (j + 1) = y := ⟨_, rfl⟩
            rw [hy] at k3 HBL1
            have Hy := Lib.hid hy
            clear hx hy
            go_wp2
            go_roundw
            case rel =>
              have := HBL1.out
              rw [List.set_set, ← Hy.out] at this
              exact ⟨j + 1, by go_num, by omega, by rw [← Hy.out] at *; exact this⟩
            case measure => simp [intOf]; omega
          · obtain rfl : j = 4 := by omega
            have HBL2 : Hid (BL w wr B0 B1 B2 sl (part W (i + 1))) := by
              unfold Hid
              rw [be4at_four, ← Hlow.out i h16, part_set _ _ (by omega)] at hbl
              exact hbl
            clear hbl
            go_wp2
            go_roundw
            case rel => exact ⟨i + 1, by go_num, by omega, HBL2.out⟩
            case measure => simp [intOf]; omega
      · have n15 : IntKind.i64.wrap ((i : Int) - 15) = ((i - 15 : Nat) : Int) := by rw [IntWalk.i64_in _ (by omega)]; omega
        have n2 : IntKind.i64.wrap ((i : Int) - 2) = ((i - 2 : Nat) : Int) := by rw [IntWalk.i64_in _ (by omega)]; omega
        have n16 : IntKind.i64.wrap ((i : Int) - 16) = ((i - 16 : Nat) : Int) := by rw [IntWalk.i64_in _ (by omega)]; omega
        have n7 : IntKind.i64.wrap ((i : Int) - 7) = ((i - 7 : Nat) : Int) := by rw [IntWalk.i64_in _ (by omega)]; omega
        have hpl : (part W i).length = 64 := by rw [part_length _ _ (by omega)]; exact hW
        have c15 := HBL.out.cellW (i - 15) (by omega)
        have c2 := HBL.out.cellW (i - 2) (by omega)
        have c16 := HBL.out.cellW (i - 16) (by omega)
        have c7 := HBL.out.cellW (i - 7) (by omega)
        rw [part_get _ _ _ (by omega) (by omega)] at c15 c2 c16 c7
        have hw := Hhigh.out i h16 hlt
        have hset := part_set W i (by omega)
        obtain ⟨x15, e15⟩ : ∃ x, gw W (i - 15) = x := ⟨_, rfl⟩
        obtain ⟨x2, e2⟩ : ∃ x, gw W (i - 2) = x := ⟨_, rfl⟩
        obtain ⟨x16, e16⟩ : ∃ x, gw W (i - 16) = x := ⟨_, rfl⟩
        obtain ⟨x7, e7⟩ : ∃ x, gw W (i - 7) = x := ⟨_, rfl⟩
        rw [e15, e2, e16, e7] at hw
        rw [e15] at c15
        rw [e2] at c2
        rw [e16] at c16
        rw [e7] at c7
        have l15 : i - 15 < 64 := by omega
        have l2 : i - 2 < 64 := by omega
        have l16 : i - 16 < 64 := by omega
        have l7 : i - 7 < 64 := by omega
        have kfz : wr.frozen? ⟨B2, i, none⟩ = false := HBL.out.2.2.1.frozen i
        have kc := HBL.out.cellW i (by omega)
        rw [part_hole W i (by omega)] at kc
        have Hw := Lib.hid hw
        have Hset := Lib.hid hset
        clear e15 e2 e16 e7 hw hset hpl
        go_wp2
        go_quiet (fail)
        obtain ⟨a7, a18, z1, lo, hA, hB, hZ, hL, hlo⟩ := low_names x15
        obtain ⟨a17, a19, z2, hg, hA2, hB2, hZ2, hL2, hhg⟩ := high_names x2
        have t7 := fun w => rot_any x15 7 (by omega) (by omega) w
        have t18 := fun w => rot_any x15 18 (by omega) (by omega) w
        have t17 := fun w => rot_any x2 17 (by omega) (by omega) w
        have t19 := fun w => rot_any x2 19 (by omega) (by omega) w
        rw [hA] at t7
        rw [hB] at t18
        rw [hA2] at t17
        rw [hB2] at t19
        obtain ⟨s1, hs1, w1, v1⟩ := add_names x16 lo
        obtain ⟨s2, hs2, w2, v2⟩ := add_names s1 x7
        obtain ⟨s3, hs3, w3, v3⟩ := add_names s2 hg
        have hfin : gw W i = s3 := by rw [Hw.out, hlo, hhg, hs1, hs2, hs3]
        have Hfin := Lib.hid hfin
        have T7 := Lib.hid t7
        have T18 := Lib.hid t18
        have T17 := Lib.hid t17
        have T19 := Lib.hid t19
        clear hA hB hA2 hB2 t7 t18 t17 t19 hs1 hs2 hs3 hfin Hw hlo hhg c15 c2
        go_wp2_with fail
        refine (T7.out _).mono ?_
        rintro e wA ⟨rfl, rfl⟩
        go_wp2_with fail
        refine (T18.out _).mono ?_
        rintro e wA ⟨rfl, rfl⟩
        go_wp2_with fail
        refine (T17.out _).mono ?_
        rintro e wA ⟨rfl, rfl⟩
        go_wp2_with fail
        refine (T19.out _).mono ?_
        rintro e wA ⟨rfl, rfl⟩
        have HP : Hid (∀ n, BL w ((wr.drewN n).setCell ⟨B2, i, none⟩ (.int .u32 (s3.toNat : Int))) B0 B1 B2 sl (part W (i + 1))) := fun n => by
          have hput := (HBL.out.drewN n).put i s3
          rw [← Hset.out, Hfin.out]; exact hput
        clear HBL
        go_wp2
        go_region
        go_wp2
        exact ⟨⟨i + 1, by go_num, by omega, HP.out _⟩, by simp [intOf]; omega⟩
    · obtain rfl : i = 64 := by omega
      have hsl8 : sl.length = 8 := by rw [← Hsl.out]; rfl
      have q0 := HBL.out.cellS 0 (by omega)
      have q1 := HBL.out.cellS 1 (by omega)
      have q2 := HBL.out.cellS 2 (by omega)
      have q3 := HBL.out.cellS 3 (by omega)
      have q4 := HBL.out.cellS 4 (by omega)
      have q5 := HBL.out.cellS 5 (by omega)
      have q6 := HBL.out.cellS 6 (by omega)
      have q7 := HBL.out.cellS 7 (by omega)
      have g0 : gw sl 0 = (rsf 0).a := by rw [← Hsl.out, Hr0.out]; rfl
      have g1 : gw sl 1 = (rsf 0).b := by rw [← Hsl.out, Hr0.out]; rfl
      have g2 : gw sl 2 = (rsf 0).c := by rw [← Hsl.out, Hr0.out]; rfl
      have g3 : gw sl 3 = (rsf 0).d := by rw [← Hsl.out, Hr0.out]; rfl
      have g4 : gw sl 4 = (rsf 0).e := by rw [← Hsl.out, Hr0.out]; rfl
      have g5 : gw sl 5 = (rsf 0).f := by rw [← Hsl.out, Hr0.out]; rfl
      have g6 : gw sl 6 = (rsf 0).g := by rw [← Hsl.out, Hr0.out]; rfl
      have g7 : gw sl 7 = (rsf 0).h := by rw [← Hsl.out, Hr0.out]; rfl
      rw [g0] at q0
      rw [g1] at q1
      rw [g2] at q2
      rw [g3] at q3
      rw [g4] at q4
      rw [g5] at q5
      rw [g6] at q6
      rw [g7] at q7
      have HBLf : Hid (∀ n, BL w (wr.drewN n) B0 B1 B2 sl W) := fun n => by
        have := HBL.out.drewN n
        have e : part W 64 = W := by rw [← hW]; exact part_all W
        rwa [e] at this
      clear g0 g1 g2 g3 g4 g5 g6 g7 HBL
      go_wp2
      go_quiet (fail)
      go_wp2
      go_loopw [15, 16, 17, 18, 19, 20, 21, 22, 111] (fun a b c d e f g h q wx => ∃ t : Nat, (q = .int .i64 (t : Int) ∧ t ≤ 64) ∧ (a = .int .u32 ((rsf t).a.toNat : Int) ∧ b = .int .u32 ((rsf t).b.toNat : Int) ∧ c = .int .u32 ((rsf t).c.toNat : Int) ∧ d = .int .u32 ((rsf t).d.toNat : Int) ∧ e = .int .u32 ((rsf t).e.toNat : Int) ∧ f = .int .u32 ((rsf t).f.toNat : Int) ∧ g = .int .u32 ((rsf t).g.toNat : Int) ∧ h = .int .u32 ((rsf t).h.toNat : Int)) ∧ BL w wx B0 B1 B2 sl W) (fun _ _ _ _ _ _ _ _ q _ => 64 - (intOf q).toNat)
      case atStart => exact ⟨0, ⟨rfl, by omega⟩, ⟨rfl, rfl, rfl, rfl, rfl, rfl, rfl, rfl⟩, HBLf.out _⟩
      case round =>
        clear HBLf q0 q1 q2 q3 q4 q5 q6 q7
        obtain ⟨t, ⟨rfl, ht⟩, ⟨rfl, rfl, rfl, rfl, rfl, rfl, rfl, rfl⟩, hbl⟩ := hrel
        by_cases ht64 : t < 64
        · have kk : wr.cell? ⟨kb, t, none⟩ = some (.int .u32 ((gw K t).toNat : Int)) := by
            rw [hbl.2.2.2.1.cell (p := ⟨kb, t, none⟩) (by rw [← hB0]; exact Hkl.out), Hk.out.cell t, encW_get _ _ (by omega)]
          have kw := hbl.cellW t (by omega)
          obtain ⟨T1, u1, c1, c2, c3, u2, u3, u4, T0, m1, m2, m3, m4, u5, d', a', e1, e2, e3, e4, e5, e6, e7, e8, e9, e10, e11, e12, e13, e14, e15, e16, e17⟩ := rnd_names (rsf t) (gw K t) (gw W t)
          rw [← Hrs.out t ht64] at e17
          obtain ⟨z1, z2, z3, z4, z5, z6, z7, z8⟩ := St.ext8 e17
          have tt1 := fun w => turned_any (rsf t).e 6 11 25 (by omega) (by omega) (by omega) w
          have tt0 := fun w => turned_any (rsf t).a 2 13 22 (by omega) (by omega) (by omega) w
          rw [e1] at tt1
          rw [e9] at tt0
          obtain ⟨sa, ha⟩ : ∃ x, (rsf t).a = x := ⟨_, rfl⟩
          obtain ⟨sb, hb⟩ : ∃ x, (rsf t).b = x := ⟨_, rfl⟩
          obtain ⟨sc, hc⟩ : ∃ x, (rsf t).c = x := ⟨_, rfl⟩
          obtain ⟨sd, hd⟩ : ∃ x, (rsf t).d = x := ⟨_, rfl⟩
          obtain ⟨se, he⟩ : ∃ x, (rsf t).e = x := ⟨_, rfl⟩
          obtain ⟨sf, hf⟩ : ∃ x, (rsf t).f = x := ⟨_, rfl⟩
          obtain ⟨sg, hg⟩ : ∃ x, (rsf t).g = x := ⟨_, rfl⟩
          obtain ⟨sh, hh⟩ : ∃ x, (rsf t).h = x := ⟨_, rfl⟩
          obtain ⟨xk, hxk⟩ : ∃ x, gw K t = x := ⟨_, rfl⟩
          obtain ⟨xw, hxw⟩ : ∃ x, gw W t = x := ⟨_, rfl⟩
          simp only [ha, hb, hc, hd, he, hf, hg, hh, hxk, hxw] at e2 e3 e4 e5 e6 e7 e8 e10 e11 e12 e13 e14 e15 e16 z2 z3 z4 z6 z7 z8 tt1 tt0 kk kw ⊢
          have TT1 := Lib.hid tt1
          have TT0 := Lib.hid tt0
          have HBL := Lib.hid hbl
          have Z := Lib.hid (show ((rsf (t + 1)).a = a' ∧ (rsf (t + 1)).b = sa ∧ (rsf (t + 1)).c = sb ∧ (rsf (t + 1)).d = sc ∧ (rsf (t + 1)).e = d' ∧ (rsf (t + 1)).f = se ∧ (rsf (t + 1)).g = sf ∧ (rsf (t + 1)).h = sg) from ⟨z1, z2, z3, z4, z5, z6, z7, z8⟩)
          clear e1 e9 e17 z1 z2 z3 z4 z5 z6 z7 z8 tt1 tt0 hbl ha hb hc hd he hf hg hh hxk hxw
          go_wp2
          go_quiet (first | (go_at_call 64; exact quiet_r (TT1.out _)))
          go_wp2_with fail
          refine (TT0.out _).mono ?_
          rintro e wA ⟨rfl, rfl⟩
          go_wp2
          go_roundw
          case rel =>
            obtain ⟨z1, z2, z3, z4, z5, z6, z7, z8⟩ := Z.out
            refine ⟨_, _, _, _, _, _, _, _, _, _, _, _, _, _, _, _, _, _, _, _, _, _, _, _, _, _, _, _, _, _, _, _, _, _, _, _, _, _, _, _, _, _, _, _, _, _, _, _, _, _, _, _, _, _, _, _, _, _, _, _, _, ?_, rfl⟩
            exact ⟨t + 1, ⟨by go_num, by omega⟩, ⟨by rw [z1, e16], by rw [z2], by rw [z3], by rw [z4], by rw [z5, e15], by rw [z6], by rw [z7], by rw [z8]⟩, HBL.out.drewN _⟩
          case measure => simp [intOf]; omega
        · obtain rfl : t = 64 := by omega
          have HO : Hid (∀ j, j < 8 → True) := fun _ _ => trivial
          have oL : out.length = 8 := by rw [← Hout.out]; rfl
          obtain ⟨r0, hr0⟩ : ∃ x, (rsf 64).a = x := ⟨_, rfl⟩
          have ho0 : gw out 0 = gw sl 0 + r0 := by rw [← Hout.out, ← Hsl.out, ← hr0]; rfl
          obtain ⟨x0, hx0⟩ : ∃ x, gw sl 0 = x := ⟨_, rfl⟩
          obtain ⟨y0, hy0⟩ : ∃ x, gw out 0 = x := ⟨_, rfl⟩
          rw [hx0, hy0] at ho0
          rw [hr0]
          have a0 : ((x0.toNat : Int) + (r0.toNat : Int)) % 4294967296 = (y0.toNat : Int) := by rw [ho0]; exact bv_add _ _
          have HX0 := Lib.hid hx0
          have HY0 := Lib.hid hy0
          clear hr0 ho0 hx0 hy0
          obtain ⟨r1, hr1⟩ : ∃ x, (rsf 64).b = x := ⟨_, rfl⟩
          have ho1 : gw out 1 = gw sl 1 + r1 := by rw [← Hout.out, ← Hsl.out, ← hr1]; rfl
          obtain ⟨x1, hx1⟩ : ∃ x, gw sl 1 = x := ⟨_, rfl⟩
          obtain ⟨y1, hy1⟩ : ∃ x, gw out 1 = x := ⟨_, rfl⟩
          rw [hx1, hy1] at ho1
          rw [hr1]
          have a1 : ((x1.toNat : Int) + (r1.toNat : Int)) % 4294967296 = (y1.toNat : Int) := by rw [ho1]; exact bv_add _ _
          have HX1 := Lib.hid hx1
          have HY1 := Lib.hid hy1
          clear hr1 ho1 hx1 hy1
          obtain ⟨r2, hr2⟩ : ∃ x, (rsf 64).c = x := ⟨_, rfl⟩
          have ho2 : gw out 2 = gw sl 2 + r2 := by rw [← Hout.out, ← Hsl.out, ← hr2]; rfl
          obtain ⟨x2, hx2⟩ : ∃ x, gw sl 2 = x := ⟨_, rfl⟩
          obtain ⟨y2, hy2⟩ : ∃ x, gw out 2 = x := ⟨_, rfl⟩
          rw [hx2, hy2] at ho2
          rw [hr2]
          have a2 : ((x2.toNat : Int) + (r2.toNat : Int)) % 4294967296 = (y2.toNat : Int) := by rw [ho2]; exact bv_add _ _
          have HX2 := Lib.hid hx2
          have HY2 := Lib.hid hy2
          clear hr2 ho2 hx2 hy2
          obtain ⟨r3, hr3⟩ : ∃ x, (rsf 64).d = x := ⟨_, rfl⟩
          have ho3 : gw out 3 = gw sl 3 + r3 := by rw [← Hout.out, ← Hsl.out, ← hr3]; rfl
          obtain ⟨x3, hx3⟩ : ∃ x, gw sl 3 = x := ⟨_, rfl⟩
          obtain ⟨y3, hy3⟩ : ∃ x, gw out 3 = x := ⟨_, rfl⟩
          rw [hx3, hy3] at ho3
          rw [hr3]
          have a3 : ((x3.toNat : Int) + (r3.toNat : Int)) % 4294967296 = (y3.toNat : Int) := by rw [ho3]; exact bv_add _ _
          have HX3 := Lib.hid hx3
          have HY3 := Lib.hid hy3
          clear hr3 ho3 hx3 hy3
          obtain ⟨r4, hr4⟩ : ∃ x, (rsf 64).e = x := ⟨_, rfl⟩
          have ho4 : gw out 4 = gw sl 4 + r4 := by rw [← Hout.out, ← Hsl.out, ← hr4]; rfl
          obtain ⟨x4, hx4⟩ : ∃ x, gw sl 4 = x := ⟨_, rfl⟩
          obtain ⟨y4, hy4⟩ : ∃ x, gw out 4 = x := ⟨_, rfl⟩
          rw [hx4, hy4] at ho4
          rw [hr4]
          have a4 : ((x4.toNat : Int) + (r4.toNat : Int)) % 4294967296 = (y4.toNat : Int) := by rw [ho4]; exact bv_add _ _
          have HX4 := Lib.hid hx4
          have HY4 := Lib.hid hy4
          clear hr4 ho4 hx4 hy4
          obtain ⟨r5, hr5⟩ : ∃ x, (rsf 64).f = x := ⟨_, rfl⟩
          have ho5 : gw out 5 = gw sl 5 + r5 := by rw [← Hout.out, ← Hsl.out, ← hr5]; rfl
          obtain ⟨x5, hx5⟩ : ∃ x, gw sl 5 = x := ⟨_, rfl⟩
          obtain ⟨y5, hy5⟩ : ∃ x, gw out 5 = x := ⟨_, rfl⟩
          rw [hx5, hy5] at ho5
          rw [hr5]
          have a5 : ((x5.toNat : Int) + (r5.toNat : Int)) % 4294967296 = (y5.toNat : Int) := by rw [ho5]; exact bv_add _ _
          have HX5 := Lib.hid hx5
          have HY5 := Lib.hid hy5
          clear hr5 ho5 hx5 hy5
          obtain ⟨r6, hr6⟩ : ∃ x, (rsf 64).g = x := ⟨_, rfl⟩
          have ho6 : gw out 6 = gw sl 6 + r6 := by rw [← Hout.out, ← Hsl.out, ← hr6]; rfl
          obtain ⟨x6, hx6⟩ : ∃ x, gw sl 6 = x := ⟨_, rfl⟩
          obtain ⟨y6, hy6⟩ : ∃ x, gw out 6 = x := ⟨_, rfl⟩
          rw [hx6, hy6] at ho6
          rw [hr6]
          have a6 : ((x6.toNat : Int) + (r6.toNat : Int)) % 4294967296 = (y6.toNat : Int) := by rw [ho6]; exact bv_add _ _
          have HX6 := Lib.hid hx6
          have HY6 := Lib.hid hy6
          clear hr6 ho6 hx6 hy6
          obtain ⟨r7, hr7⟩ : ∃ x, (rsf 64).h = x := ⟨_, rfl⟩
          have ho7 : gw out 7 = gw sl 7 + r7 := by rw [← Hout.out, ← Hsl.out, ← hr7]; rfl
          obtain ⟨x7, hx7⟩ : ∃ x, gw sl 7 = x := ⟨_, rfl⟩
          obtain ⟨y7, hy7⟩ : ∃ x, gw out 7 = x := ⟨_, rfl⟩
          rw [hx7, hy7] at ho7
          rw [hr7]
          have a7 : ((x7.toNat : Int) + (r7.toNat : Int)) % 4294967296 = (y7.toNat : Int) := by rw [ho7]; exact bv_add _ _
          have HX7 := Lib.hid hx7
          have HY7 := Lib.hid hy7
          clear hr7 ho7 hx7 hy7
          have HBL := Lib.hid hbl
          have hB : Hid (BL w wr B0 B1 B2 (out.take 0 ++ sl.drop 0) W) := by rw [List.take_zero, List.drop_zero]; exact HBL
          clear HBL hbl
          go_wp2
          go_loopw [170] (fun q wx => ∃ j : Nat, (q = .int .i64 (j : Int) ∧ j ≤ 8) ∧ BL w wx B0 B1 B2 (out.take j ++ sl.drop j) W) (fun q _ => 8 - (intOf q).toNat)
          case atStart => exact ⟨0, ⟨rfl, by omega⟩, hB.out⟩
          case round =>
            clear hB
            obtain ⟨j, ⟨rfl, hj⟩, hbl⟩ := hrel
            have hj' : j = 0 ∨ j = 1 ∨ j = 2 ∨ j = 3 ∨ j = 4 ∨ j = 5 ∨ j = 6 ∨ j = 7 ∨ j = 8 := by omega
            rcases hj' with rfl | rfl | rfl | rfl | rfl | rfl | rfl | rfl | rfl
            · have k0 := hbl.cellS 0 (by simp; omega)
              rw [mix_get out sl 0 (by omega) (by omega), HX0.out] at k0
              have kf : wr.frozen? ⟨B0, 0, none⟩ = false := hbl.1.frozen 0
              have kx : ∀ w, (Instr.index 62 (.agg #[.int .u32 (r0.toNat : Int), .int .u32 (r1.toNat : Int), .int .u32 (r2.toNat : Int), .int .u32 (r3.toNat : Int), .int .u32 (r4.toNat : Int), .int .u32 (r5.toNat : Int), .int .u32 (r6.toNat : Int), .int .u32 (r7.toNat : Int)]) (.int .i64 0)).run Try.prog w = .ok (.int .u32 (r0.toNat : Int)) w :=
                fun w => run_index_array 62 56 8 [.int .u32 (r0.toNat : Int), .int .u32 (r1.toNat : Int), .int .u32 (r2.toNat : Int), .int .u32 (r3.toNat : Int), .int .u32 (r4.toNat : Int), .int .u32 (r5.toNat : Int), .int .u32 (r6.toNat : Int), .int .u32 (r7.toNat : Int)] 0 _ Try.underlying62 Try.sizeOf56 Try.isAgg56 rfl rfl w
              have hput := hbl.putS 0 y0
              rw [← HY0.out, mix_set out sl 0 (by omega) (by omega), HY0.out] at hput
              have HP := Lib.hid hput
              clear hput hbl
              go_wp2
              exact ⟨⟨0 + 1, ⟨rfl, by omega⟩, HP.out⟩, by simp [intOf]⟩
            · have k0 := hbl.cellS 1 (by simp; omega)
              rw [mix_get out sl 1 (by omega) (by omega), HX1.out] at k0
              have kf : wr.frozen? ⟨B0, 1, none⟩ = false := hbl.1.frozen 1
              have kx : ∀ w, (Instr.index 62 (.agg #[.int .u32 (r0.toNat : Int), .int .u32 (r1.toNat : Int), .int .u32 (r2.toNat : Int), .int .u32 (r3.toNat : Int), .int .u32 (r4.toNat : Int), .int .u32 (r5.toNat : Int), .int .u32 (r6.toNat : Int), .int .u32 (r7.toNat : Int)]) (.int .i64 1)).run Try.prog w = .ok (.int .u32 (r1.toNat : Int)) w :=
                fun w => run_index_array 62 56 8 [.int .u32 (r0.toNat : Int), .int .u32 (r1.toNat : Int), .int .u32 (r2.toNat : Int), .int .u32 (r3.toNat : Int), .int .u32 (r4.toNat : Int), .int .u32 (r5.toNat : Int), .int .u32 (r6.toNat : Int), .int .u32 (r7.toNat : Int)] 1 _ Try.underlying62 Try.sizeOf56 Try.isAgg56 rfl rfl w
              have hput := hbl.putS 1 y1
              rw [← HY1.out, mix_set out sl 1 (by omega) (by omega), HY1.out] at hput
              have HP := Lib.hid hput
              clear hput hbl
              go_wp2
              exact ⟨⟨1 + 1, ⟨rfl, by omega⟩, HP.out⟩, by simp [intOf]⟩
            · have k0 := hbl.cellS 2 (by simp; omega)
              rw [mix_get out sl 2 (by omega) (by omega), HX2.out] at k0
              have kf : wr.frozen? ⟨B0, 2, none⟩ = false := hbl.1.frozen 2
              have kx : ∀ w, (Instr.index 62 (.agg #[.int .u32 (r0.toNat : Int), .int .u32 (r1.toNat : Int), .int .u32 (r2.toNat : Int), .int .u32 (r3.toNat : Int), .int .u32 (r4.toNat : Int), .int .u32 (r5.toNat : Int), .int .u32 (r6.toNat : Int), .int .u32 (r7.toNat : Int)]) (.int .i64 2)).run Try.prog w = .ok (.int .u32 (r2.toNat : Int)) w :=
                fun w => run_index_array 62 56 8 [.int .u32 (r0.toNat : Int), .int .u32 (r1.toNat : Int), .int .u32 (r2.toNat : Int), .int .u32 (r3.toNat : Int), .int .u32 (r4.toNat : Int), .int .u32 (r5.toNat : Int), .int .u32 (r6.toNat : Int), .int .u32 (r7.toNat : Int)] 2 _ Try.underlying62 Try.sizeOf56 Try.isAgg56 rfl rfl w
              have hput := hbl.putS 2 y2
              rw [← HY2.out, mix_set out sl 2 (by omega) (by omega), HY2.out] at hput
              have HP := Lib.hid hput
              clear hput hbl
              go_wp2
              exact ⟨⟨2 + 1, ⟨rfl, by omega⟩, HP.out⟩, by simp [intOf]⟩
            · have k0 := hbl.cellS 3 (by simp; omega)
              rw [mix_get out sl 3 (by omega) (by omega), HX3.out] at k0
              have kf : wr.frozen? ⟨B0, 3, none⟩ = false := hbl.1.frozen 3
              have kx : ∀ w, (Instr.index 62 (.agg #[.int .u32 (r0.toNat : Int), .int .u32 (r1.toNat : Int), .int .u32 (r2.toNat : Int), .int .u32 (r3.toNat : Int), .int .u32 (r4.toNat : Int), .int .u32 (r5.toNat : Int), .int .u32 (r6.toNat : Int), .int .u32 (r7.toNat : Int)]) (.int .i64 3)).run Try.prog w = .ok (.int .u32 (r3.toNat : Int)) w :=
                fun w => run_index_array 62 56 8 [.int .u32 (r0.toNat : Int), .int .u32 (r1.toNat : Int), .int .u32 (r2.toNat : Int), .int .u32 (r3.toNat : Int), .int .u32 (r4.toNat : Int), .int .u32 (r5.toNat : Int), .int .u32 (r6.toNat : Int), .int .u32 (r7.toNat : Int)] 3 _ Try.underlying62 Try.sizeOf56 Try.isAgg56 rfl rfl w
              have hput := hbl.putS 3 y3
              rw [← HY3.out, mix_set out sl 3 (by omega) (by omega), HY3.out] at hput
              have HP := Lib.hid hput
              clear hput hbl
              go_wp2
              exact ⟨⟨3 + 1, ⟨rfl, by omega⟩, HP.out⟩, by simp [intOf]⟩
            · have k0 := hbl.cellS 4 (by simp; omega)
              rw [mix_get out sl 4 (by omega) (by omega), HX4.out] at k0
              have kf : wr.frozen? ⟨B0, 4, none⟩ = false := hbl.1.frozen 4
              have kx : ∀ w, (Instr.index 62 (.agg #[.int .u32 (r0.toNat : Int), .int .u32 (r1.toNat : Int), .int .u32 (r2.toNat : Int), .int .u32 (r3.toNat : Int), .int .u32 (r4.toNat : Int), .int .u32 (r5.toNat : Int), .int .u32 (r6.toNat : Int), .int .u32 (r7.toNat : Int)]) (.int .i64 4)).run Try.prog w = .ok (.int .u32 (r4.toNat : Int)) w :=
                fun w => run_index_array 62 56 8 [.int .u32 (r0.toNat : Int), .int .u32 (r1.toNat : Int), .int .u32 (r2.toNat : Int), .int .u32 (r3.toNat : Int), .int .u32 (r4.toNat : Int), .int .u32 (r5.toNat : Int), .int .u32 (r6.toNat : Int), .int .u32 (r7.toNat : Int)] 4 _ Try.underlying62 Try.sizeOf56 Try.isAgg56 rfl rfl w
              have hput := hbl.putS 4 y4
              rw [← HY4.out, mix_set out sl 4 (by omega) (by omega), HY4.out] at hput
              have HP := Lib.hid hput
              clear hput hbl
              go_wp2
              exact ⟨⟨4 + 1, ⟨rfl, by omega⟩, HP.out⟩, by simp [intOf]⟩
            · have k0 := hbl.cellS 5 (by simp; omega)
              rw [mix_get out sl 5 (by omega) (by omega), HX5.out] at k0
              have kf : wr.frozen? ⟨B0, 5, none⟩ = false := hbl.1.frozen 5
              have kx : ∀ w, (Instr.index 62 (.agg #[.int .u32 (r0.toNat : Int), .int .u32 (r1.toNat : Int), .int .u32 (r2.toNat : Int), .int .u32 (r3.toNat : Int), .int .u32 (r4.toNat : Int), .int .u32 (r5.toNat : Int), .int .u32 (r6.toNat : Int), .int .u32 (r7.toNat : Int)]) (.int .i64 5)).run Try.prog w = .ok (.int .u32 (r5.toNat : Int)) w :=
                fun w => run_index_array 62 56 8 [.int .u32 (r0.toNat : Int), .int .u32 (r1.toNat : Int), .int .u32 (r2.toNat : Int), .int .u32 (r3.toNat : Int), .int .u32 (r4.toNat : Int), .int .u32 (r5.toNat : Int), .int .u32 (r6.toNat : Int), .int .u32 (r7.toNat : Int)] 5 _ Try.underlying62 Try.sizeOf56 Try.isAgg56 rfl rfl w
              have hput := hbl.putS 5 y5
              rw [← HY5.out, mix_set out sl 5 (by omega) (by omega), HY5.out] at hput
              have HP := Lib.hid hput
              clear hput hbl
              go_wp2
              exact ⟨⟨5 + 1, ⟨rfl, by omega⟩, HP.out⟩, by simp [intOf]⟩
            · have k0 := hbl.cellS 6 (by simp; omega)
              rw [mix_get out sl 6 (by omega) (by omega), HX6.out] at k0
              have kf : wr.frozen? ⟨B0, 6, none⟩ = false := hbl.1.frozen 6
              have kx : ∀ w, (Instr.index 62 (.agg #[.int .u32 (r0.toNat : Int), .int .u32 (r1.toNat : Int), .int .u32 (r2.toNat : Int), .int .u32 (r3.toNat : Int), .int .u32 (r4.toNat : Int), .int .u32 (r5.toNat : Int), .int .u32 (r6.toNat : Int), .int .u32 (r7.toNat : Int)]) (.int .i64 6)).run Try.prog w = .ok (.int .u32 (r6.toNat : Int)) w :=
                fun w => run_index_array 62 56 8 [.int .u32 (r0.toNat : Int), .int .u32 (r1.toNat : Int), .int .u32 (r2.toNat : Int), .int .u32 (r3.toNat : Int), .int .u32 (r4.toNat : Int), .int .u32 (r5.toNat : Int), .int .u32 (r6.toNat : Int), .int .u32 (r7.toNat : Int)] 6 _ Try.underlying62 Try.sizeOf56 Try.isAgg56 rfl rfl w
              have hput := hbl.putS 6 y6
              rw [← HY6.out, mix_set out sl 6 (by omega) (by omega), HY6.out] at hput
              have HP := Lib.hid hput
              clear hput hbl
              go_wp2
              exact ⟨⟨6 + 1, ⟨rfl, by omega⟩, HP.out⟩, by simp [intOf]⟩
            · have k0 := hbl.cellS 7 (by simp; omega)
              rw [mix_get out sl 7 (by omega) (by omega), HX7.out] at k0
              have kf : wr.frozen? ⟨B0, 7, none⟩ = false := hbl.1.frozen 7
              have kx : ∀ w, (Instr.index 62 (.agg #[.int .u32 (r0.toNat : Int), .int .u32 (r1.toNat : Int), .int .u32 (r2.toNat : Int), .int .u32 (r3.toNat : Int), .int .u32 (r4.toNat : Int), .int .u32 (r5.toNat : Int), .int .u32 (r6.toNat : Int), .int .u32 (r7.toNat : Int)]) (.int .i64 7)).run Try.prog w = .ok (.int .u32 (r7.toNat : Int)) w :=
                fun w => run_index_array 62 56 8 [.int .u32 (r0.toNat : Int), .int .u32 (r1.toNat : Int), .int .u32 (r2.toNat : Int), .int .u32 (r3.toNat : Int), .int .u32 (r4.toNat : Int), .int .u32 (r5.toNat : Int), .int .u32 (r6.toNat : Int), .int .u32 (r7.toNat : Int)] 7 _ Try.underlying62 Try.sizeOf56 Try.isAgg56 rfl rfl w
              have hput := hbl.putS 7 y7
              rw [← HY7.out, mix_set out sl 7 (by omega) (by omega), HY7.out] at hput
              have HP := Lib.hid hput
              clear hput hbl
              go_wp2
              exact ⟨⟨7 + 1, ⟨rfl, by omega⟩, HP.out⟩, by simp [intOf]⟩
            · have hr0 : Row wr B0 63 (encW out) := by
                have := hbl.1
                rw [List.take_of_length_le (by omega), List.drop_of_length_le (by omega), List.append_nil] at this
                exact this
              have hr1 := hbl.2.1
              have R0 := Lib.hid hr0
              have R1 := Lib.hid hr1
              have RR := Lib.hid (hr1.setRow (encW out))
              have HBz := Lib.hid (below_setRow hbl.2.2.2.1 (show B0 ≤ B1 by have := hbl.2.2.2.2.1; omega) (encW out).toArray)
              have L8 := Lib.hid oL
              clear hr0 hr1 hbl a0 a1 a2 a3 a4 a5 a6 a7 oL
              go_wp2_with (first | (refine R0.out.load rfl 63 (.tmp 3) rfl rfl _ _ Try.underlying63 (by rw [encW_length, L8.out]; kernel_rfl) ?_) | (refine R1.out.store (m := encW out) rfl 63 (.tmp 6) (.tmp 181) rfl rfl rfl (by rw [encW_length, L8.out]; kernel_rfl) (by rw [encW_length, encW_length, L8.out]; rfl) (encW_one _) ?_))
              refine bodyPost_ret (v := .agg (encW out).toArray) (RR.out.result Try.results44 _ _ _ rfl Try.underlying63 (by rw [encW_length, L8.out]; kernel_rfl)) rfl ?_
              exact ⟨rfl, by rw [hB0]; exact HBz.out⟩

theorem rs_step (w : List (BitVec 32)) (s : St) (t : Nat) : rs w s (t + 1) = rnd (rs w s t) (gw KW t) (gw w t) := by rw [KW_get]; rfl
/-- **digest's block** -/
theorem block_any (s : St) (blk : List UInt8) (v : Value) (kb : Nat) (w : World) (hk : Row w kb 60 (encW KW)) (hv : SB w v blk) (h64 : 64 ≤ blk.length) :
    Calls Try.prog 44 #[.agg (encW s.list).toArray, v, .pointer (some ⟨kb, 0, none⟩)] w fun e w' => e = .returned (.agg (encW (blockS s blk).list).toArray) ∧ Below w.heap.size w w' :=
  block_gen s blk (ws blk 64) KW (ws_length _ _) (gW_low blk) (gW_high blk) (rs (ws blk 64) s) rfl (fun t _ => rs_step _ s t) KW_length s.list rfl (blockS s blk).list rfl v kb w hk hv h64
end Go.Proofs.Ytkipnhhdlohnfaa

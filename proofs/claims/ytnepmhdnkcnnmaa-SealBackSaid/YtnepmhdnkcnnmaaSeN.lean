/- numbers of four bytes; seal.Parse. -/
import Derived.RangeFuncNested
import Derived.RangeFuncBound
import Derived.RangeFuncCalls
import Derived.RangeFuncLeaves
import Derived.Shelf.Abstract
import Derived.Shelf.RegionOpen
import Derived.WalkKit
import Derived.OwnWalkIn
import Derived.TacticsInMore
import Derived.LoopNIn
import Derived.LoopIn
import Derived.Outline
import Derived.Lib.Hide
import Derived.Lib.SliceRun
import Derived.IntWalk
import Derived.WalkLawsBesides
import Derived.WalkSpells
import Derived.Laws.BitsAllLaws
import Derived.Lib.ConvBytes
import Derived.Maps.AppendAt
import Derived.Lib.AppendStr
import Derived.Lib.SlBytesConst
import Derived.Laws.AppendOwnNone
import Derived.Laws.OwnMore
import Derived.Laws.BytesArg
import Derived.Deep.RegionHeld3
import Derived.BigQuiet
import Derived.Deep.RegionLaw
import Derived.Deep.QuietTactic
import Derived.Lib.OthersKept
import Derived.Test.YtnepmhdnkcnnmaaProg
import Derived.Deep.DeepFit
import Derived.Test.YtnepmhdnkcnnmaaSeI
set_option linter.unusedVariables false
set_option linter.unusedSimpArgs false
namespace Go.Proofs.Ytnepmhdnkcnnmaa
open Go Go.RowKit Go.Shelf

theorem bits_or_i64 (a b : Nat) (ha : a < 1099511627776) (hb : b < 1099511627776) : bits .or .i64 (a : Int) (b : Int) = ((a ||| b : Nat) : Int) := by
  have hx : a ||| b < 2 ^ 40 := Nat.or_lt_two_pow (by omega) (by omega)
  have h1 : (BitVec.ofInt 64 (a : Int)).toNat = a := by
    rw [BitVec.ofInt_natCast, BitVec.toNat_ofNat]; exact Nat.mod_eq_of_lt (by omega)
  have h2 : (BitVec.ofInt 64 (b : Int)).toNat = b := by
    rw [BitVec.ofInt_natCast, BitVec.toNat_ofNat]; exact Nat.mod_eq_of_lt (by omega)
  show IntKind.i64.wrap ((BitVec.ofInt 64 (a : Int) ||| BitVec.ofInt 64 (b : Int)).toNat : Int) = _
  rw [BitVec.toNat_or, h1, h2]
  exact IntWalk.i64_in _ (by omega)
theorem or_add64 {a b n : Nat} (ha : a < 2 ^ n) (h : b * 2 ^ n + a < 1099511627776) : bits BinOp.or IntKind.i64 ((b * 2 ^ n : Nat) : Int) (a : Int) = ((b * 2 ^ n + a : Nat) : Int) := by
  rw [bits_or_i64 _ _ (by omega) (by omega)]
  have := Nat.shiftLeft_add_eq_or_of_lt (i := n) (b := a) ha b
  rw [Nat.shiftLeft_eq] at this
  rw [← this]
theorem or_add8 (a b : Nat) (ha : a < 256) (h : b < 4294967296) : bits BinOp.or IntKind.i64 ((b : Int) * 256) (a : Int) = ((b * 256 + a : Nat) : Int) := by
  have := or_add64 (a := a) (b := b) (n := 8) (by omega) (by omega)
  rw [show ((b : Int) * 256) = ((b * 2 ^ 8 : Nat) : Int) by simp, this]
/-- of the first i bytes from k on -/
def nP (l : List UInt8) (k : Nat) : Nat → Nat
  | 0 => 0
  | i + 1 => nP l k i * 256 + gb l (k + i)
theorem gb_lt' (l : List UInt8) (k : Nat) : gb l k < 256 := by have := gb_lt l k; omega
theorem nP_lt (l : List UInt8) (k : Nat) : ∀ i, nP l k i < 256 ^ i
  | 0 => by simp [nP]
  | i + 1 => by
    have := nP_lt l k i
    have := gb_lt' l (k + i)
    rw [nP, Nat.pow_succ]
    omega
theorem nP_4 (l : List UInt8) (k i : Nat) (h : i ≤ 4) : nP l k i < 4294967296 := by
  have h1 := nP_lt l k i
  have h2 : (256 : Nat) ^ i ≤ 256 ^ 4 := Nat.pow_le_pow_right (by omega) h
  omega
def numL (l : List UInt8) (k : Nat) : Nat := nP l k 4
/-- what Parse answers -/
def parOk (l : List UInt8) : Bool := decide (l.length = 72 ∧ 1 ≤ numL l 0 ∧ numL l 0 ≤ 999999)
def parC (l : List UInt8) : List Value := if parOk l = true then sealC (numL l 0) (numL l 4) ((l.drop 8).take 32) (l.drop 40) else ZS
def parE (l : List UInt8) : Int := if parOk l = true then 0 else 60

theorem Row.setCells_same {g : Nat} {t : TypeId} : ∀ (vs : List Value) (o : Nat) (w : World) (l : List Value), Row w g t l → o + vs.length ≤ l.length → Row (w.setCells g o vs) g t (l.take o ++ vs ++ l.drop (o + vs.length))
  | [], o, w, l, h, _ => by
    have : l.take o ++ [] ++ l.drop (o + ([] : List Value).length) = l := by simp
    rw [this]; exact h
  | v :: r, o, w, l, h, hl => by
    have hl' : o + (r.length + 1) ≤ l.length := by simpa using hl
    have h1 := Row.setCells_same r (o + 1) (w.setCell ⟨g, o, none⟩ v) (l.set o v) (h.set o v) (by simp; omega)
    rw [World.setCells]
    have e : (l.set o v).take (o + 1) ++ r ++ (l.set o v).drop (o + 1 + r.length) = l.take o ++ v :: r ++ l.drop (o + (v :: r).length) := by
      have e1 : (l.set o v).take (o + 1) = l.take o ++ [v] := by
        rw [List.take_set, List.set_eq_take_append_cons_drop, if_pos (by simp; omega), List.take_take, Nat.min_eq_left (by omega), List.drop_of_length_le (by rw [List.length_take]; omega)]
      have e2 : (l.set o v).drop (o + 1 + r.length) = l.drop (o + 1 + r.length) := List.drop_set_of_lt (by omega)
      rw [e1, e2, List.length_cons]
      simp [Nat.add_assoc, Nat.add_comm 1]
    rw [e] at h1
    exact h1
theorem seal_fill (s c : Value) (z y r p : List Value) (hz : z.length = 32) (hy : y.length = 32) (hr : r.length = 32) (hp : p.length = 32) :
    let l := s :: c :: (z ++ y)
    let m := l.take 2 ++ r ++ l.drop (2 + r.length)
    m.take 34 ++ p ++ m.drop (34 + p.length) = s :: c :: (r ++ p) := by
  simp only [hr, hp]
  have e : (s :: c :: (z ++ y)).take 2 ++ r ++ (s :: c :: (z ++ y)).drop (2 + 32) = s :: c :: (r ++ y) := by
    simp only [List.take_succ_cons, List.take_zero, List.drop_succ_cons, List.cons_append, List.nil_append, show (2 + 32) = 32 + 1 + 1 from rfl, List.drop_left' hz]
  rw [e]
  simp only [List.take_succ_cons, List.drop_succ_cons, List.cons_append, show (34 + 32) = 64 + 1 + 1 from rfl, show 34 = 32 + 1 + 1 from rfl, List.take_left' hr]
  rw [List.drop_of_length_le (by simp; omega), List.append_nil]

theorem Mine.put {A : Nat} {a w : World} (h : Mine A a w) (p : Addr) (v : Value) (hb : A ≤ p.block) : Mine A a (w.setCell p v) :=
  ⟨by rw [World.size_setCell]; exact h.le, below_setCell h.bel p hb v⟩
set_option maxRecDepth 100000 in
theorem run_arrayAt (a : Addr) (d : Nat) (w : World) : (Instr.arrayAt 23 (.slice (some a) 32 d)).run Try.prog w = .ok (.pointer (some a)) w := by kernel_rfl
set_option maxHeartbeats 4000000 in
set_option maxRecDepth 100000 in
theorem parse_in (v : Value) (l : List UInt8) (w : World) (hv : SB w v l) (h72 : l.length = 72) :
    Calls Try.prog 24 #[v] w fun e w' => e = .returned (.tuple #[.agg (parC l).toArray, .int .i64 (parE l)]) ∧ Below w.heap.size w w' := by
  obtain ⟨A0, c, rfl, hc1, hc2, hcell⟩ := hv.form
  obtain ⟨g, o, rfl, hc⟩ := hcell (by omega)
  rw [h72] at hc1 hc hv ⊢
  obtain ⟨A, hA⟩ : ∃ A, w.heap.size = A := ⟨_, rfl⟩
  have hgA : g < A := by rw [← hA]; exact World.block_lt_of_cell? w _ (hc 0 (by omega))
  have hsz1 : (w.alloc (.cells #[.int .i64 0, .int .i64 0, .int .u8 0, .int .u8 0, .int .u8 0, .int .u8 0, .int .u8 0, .int .u8 0, .int .u8 0, .int .u8 0, .int .u8 0, .int .u8 0, .int .u8 0, .int .u8 0, .int .u8 0, .int .u8 0, .int .u8 0, .int .u8 0, .int .u8 0, .int .u8 0, .int .u8 0, .int .u8 0, .int .u8 0, .int .u8 0, .int .u8 0, .int .u8 0, .int .u8 0, .int .u8 0, .int .u8 0, .int .u8 0, .int .u8 0, .int .u8 0, .int .u8 0, .int .u8 0, .int .u8 0, .int .u8 0, .int .u8 0, .int .u8 0, .int .u8 0, .int .u8 0, .int .u8 0, .int .u8 0, .int .u8 0, .int .u8 0, .int .u8 0, .int .u8 0, .int .u8 0, .int .u8 0, .int .u8 0, .int .u8 0, .int .u8 0, .int .u8 0, .int .u8 0, .int .u8 0, .int .u8 0, .int .u8 0, .int .u8 0, .int .u8 0, .int .u8 0, .int .u8 0, .int .u8 0, .int .u8 0, .int .u8 0, .int .u8 0, .int .u8 0, .int .u8 0] 27)).heap.size = A + 1 := by rw [alloc_size, hA]
  have r0 : Row ((w.alloc (.cells #[.int .i64 0, .int .i64 0, .int .u8 0, .int .u8 0, .int .u8 0, .int .u8 0, .int .u8 0, .int .u8 0, .int .u8 0, .int .u8 0, .int .u8 0, .int .u8 0, .int .u8 0, .int .u8 0, .int .u8 0, .int .u8 0, .int .u8 0, .int .u8 0, .int .u8 0, .int .u8 0, .int .u8 0, .int .u8 0, .int .u8 0, .int .u8 0, .int .u8 0, .int .u8 0, .int .u8 0, .int .u8 0, .int .u8 0, .int .u8 0, .int .u8 0, .int .u8 0, .int .u8 0, .int .u8 0, .int .u8 0, .int .u8 0, .int .u8 0, .int .u8 0, .int .u8 0, .int .u8 0, .int .u8 0, .int .u8 0, .int .u8 0, .int .u8 0, .int .u8 0, .int .u8 0, .int .u8 0, .int .u8 0, .int .u8 0, .int .u8 0, .int .u8 0, .int .u8 0, .int .u8 0, .int .u8 0, .int .u8 0, .int .u8 0, .int .u8 0, .int .u8 0, .int .u8 0, .int .u8 0, .int .u8 0, .int .u8 0, .int .u8 0, .int .u8 0, .int .u8 0, .int .u8 0] 27)).alloc (.cells #[.int .i64 0, .int .i64 0, .int .u8 0, .int .u8 0, .int .u8 0, .int .u8 0, .int .u8 0, .int .u8 0, .int .u8 0, .int .u8 0, .int .u8 0, .int .u8 0, .int .u8 0, .int .u8 0, .int .u8 0, .int .u8 0, .int .u8 0, .int .u8 0, .int .u8 0, .int .u8 0, .int .u8 0, .int .u8 0, .int .u8 0, .int .u8 0, .int .u8 0, .int .u8 0, .int .u8 0, .int .u8 0, .int .u8 0, .int .u8 0, .int .u8 0, .int .u8 0, .int .u8 0, .int .u8 0, .int .u8 0, .int .u8 0, .int .u8 0, .int .u8 0, .int .u8 0, .int .u8 0, .int .u8 0, .int .u8 0, .int .u8 0, .int .u8 0, .int .u8 0, .int .u8 0, .int .u8 0, .int .u8 0, .int .u8 0, .int .u8 0, .int .u8 0, .int .u8 0, .int .u8 0, .int .u8 0, .int .u8 0, .int .u8 0, .int .u8 0, .int .u8 0, .int .u8 0, .int .u8 0, .int .u8 0, .int .u8 0, .int .u8 0, .int .u8 0, .int .u8 0, .int .u8 0] 27)) A 27 ZS := by rw [← hA]; exact (Row.new w #[.int .i64 0, .int .i64 0, .int .u8 0, .int .u8 0, .int .u8 0, .int .u8 0, .int .u8 0, .int .u8 0, .int .u8 0, .int .u8 0, .int .u8 0, .int .u8 0, .int .u8 0, .int .u8 0, .int .u8 0, .int .u8 0, .int .u8 0, .int .u8 0, .int .u8 0, .int .u8 0, .int .u8 0, .int .u8 0, .int .u8 0, .int .u8 0, .int .u8 0, .int .u8 0, .int .u8 0, .int .u8 0, .int .u8 0, .int .u8 0, .int .u8 0, .int .u8 0, .int .u8 0, .int .u8 0, .int .u8 0, .int .u8 0, .int .u8 0, .int .u8 0, .int .u8 0, .int .u8 0, .int .u8 0, .int .u8 0, .int .u8 0, .int .u8 0, .int .u8 0, .int .u8 0, .int .u8 0, .int .u8 0, .int .u8 0, .int .u8 0, .int .u8 0, .int .u8 0, .int .u8 0, .int .u8 0, .int .u8 0, .int .u8 0, .int .u8 0, .int .u8 0, .int .u8 0, .int .u8 0, .int .u8 0, .int .u8 0, .int .u8 0, .int .u8 0, .int .u8 0, .int .u8 0] 27).alloc _
  have r1 : Row ((w.alloc (.cells #[.int .i64 0, .int .i64 0, .int .u8 0, .int .u8 0, .int .u8 0, .int .u8 0, .int .u8 0, .int .u8 0, .int .u8 0, .int .u8 0, .int .u8 0, .int .u8 0, .int .u8 0, .int .u8 0, .int .u8 0, .int .u8 0, .int .u8 0, .int .u8 0, .int .u8 0, .int .u8 0, .int .u8 0, .int .u8 0, .int .u8 0, .int .u8 0, .int .u8 0, .int .u8 0, .int .u8 0, .int .u8 0, .int .u8 0, .int .u8 0, .int .u8 0, .int .u8 0, .int .u8 0, .int .u8 0, .int .u8 0, .int .u8 0, .int .u8 0, .int .u8 0, .int .u8 0, .int .u8 0, .int .u8 0, .int .u8 0, .int .u8 0, .int .u8 0, .int .u8 0, .int .u8 0, .int .u8 0, .int .u8 0, .int .u8 0, .int .u8 0, .int .u8 0, .int .u8 0, .int .u8 0, .int .u8 0, .int .u8 0, .int .u8 0, .int .u8 0, .int .u8 0, .int .u8 0, .int .u8 0, .int .u8 0, .int .u8 0, .int .u8 0, .int .u8 0, .int .u8 0, .int .u8 0] 27)).alloc (.cells #[.int .i64 0, .int .i64 0, .int .u8 0, .int .u8 0, .int .u8 0, .int .u8 0, .int .u8 0, .int .u8 0, .int .u8 0, .int .u8 0, .int .u8 0, .int .u8 0, .int .u8 0, .int .u8 0, .int .u8 0, .int .u8 0, .int .u8 0, .int .u8 0, .int .u8 0, .int .u8 0, .int .u8 0, .int .u8 0, .int .u8 0, .int .u8 0, .int .u8 0, .int .u8 0, .int .u8 0, .int .u8 0, .int .u8 0, .int .u8 0, .int .u8 0, .int .u8 0, .int .u8 0, .int .u8 0, .int .u8 0, .int .u8 0, .int .u8 0, .int .u8 0, .int .u8 0, .int .u8 0, .int .u8 0, .int .u8 0, .int .u8 0, .int .u8 0, .int .u8 0, .int .u8 0, .int .u8 0, .int .u8 0, .int .u8 0, .int .u8 0, .int .u8 0, .int .u8 0, .int .u8 0, .int .u8 0, .int .u8 0, .int .u8 0, .int .u8 0, .int .u8 0, .int .u8 0, .int .u8 0, .int .u8 0, .int .u8 0, .int .u8 0, .int .u8 0, .int .u8 0, .int .u8 0] 27)) (A + 1) 27 ZS := by rw [← hsz1]; exact Row.new (w.alloc (.cells #[.int .i64 0, .int .i64 0, .int .u8 0, .int .u8 0, .int .u8 0, .int .u8 0, .int .u8 0, .int .u8 0, .int .u8 0, .int .u8 0, .int .u8 0, .int .u8 0, .int .u8 0, .int .u8 0, .int .u8 0, .int .u8 0, .int .u8 0, .int .u8 0, .int .u8 0, .int .u8 0, .int .u8 0, .int .u8 0, .int .u8 0, .int .u8 0, .int .u8 0, .int .u8 0, .int .u8 0, .int .u8 0, .int .u8 0, .int .u8 0, .int .u8 0, .int .u8 0, .int .u8 0, .int .u8 0, .int .u8 0, .int .u8 0, .int .u8 0, .int .u8 0, .int .u8 0, .int .u8 0, .int .u8 0, .int .u8 0, .int .u8 0, .int .u8 0, .int .u8 0, .int .u8 0, .int .u8 0, .int .u8 0, .int .u8 0, .int .u8 0, .int .u8 0, .int .u8 0, .int .u8 0, .int .u8 0, .int .u8 0, .int .u8 0, .int .u8 0, .int .u8 0, .int .u8 0, .int .u8 0, .int .u8 0, .int .u8 0, .int .u8 0, .int .u8 0, .int .u8 0, .int .u8 0] 27)) #[.int .i64 0, .int .i64 0, .int .u8 0, .int .u8 0, .int .u8 0, .int .u8 0, .int .u8 0, .int .u8 0, .int .u8 0, .int .u8 0, .int .u8 0, .int .u8 0, .int .u8 0, .int .u8 0, .int .u8 0, .int .u8 0, .int .u8 0, .int .u8 0, .int .u8 0, .int .u8 0, .int .u8 0, .int .u8 0, .int .u8 0, .int .u8 0, .int .u8 0, .int .u8 0, .int .u8 0, .int .u8 0, .int .u8 0, .int .u8 0, .int .u8 0, .int .u8 0, .int .u8 0, .int .u8 0, .int .u8 0, .int .u8 0, .int .u8 0, .int .u8 0, .int .u8 0, .int .u8 0, .int .u8 0, .int .u8 0, .int .u8 0, .int .u8 0, .int .u8 0, .int .u8 0, .int .u8 0, .int .u8 0, .int .u8 0, .int .u8 0, .int .u8 0, .int .u8 0, .int .u8 0, .int .u8 0, .int .u8 0, .int .u8 0, .int .u8 0, .int .u8 0, .int .u8 0, .int .u8 0, .int .u8 0, .int .u8 0, .int .u8 0, .int .u8 0, .int .u8 0, .int .u8 0] 27
  have m0 : Mine A w ((w.alloc (.cells #[.int .i64 0, .int .i64 0, .int .u8 0, .int .u8 0, .int .u8 0, .int .u8 0, .int .u8 0, .int .u8 0, .int .u8 0, .int .u8 0, .int .u8 0, .int .u8 0, .int .u8 0, .int .u8 0, .int .u8 0, .int .u8 0, .int .u8 0, .int .u8 0, .int .u8 0, .int .u8 0, .int .u8 0, .int .u8 0, .int .u8 0, .int .u8 0, .int .u8 0, .int .u8 0, .int .u8 0, .int .u8 0, .int .u8 0, .int .u8 0, .int .u8 0, .int .u8 0, .int .u8 0, .int .u8 0, .int .u8 0, .int .u8 0, .int .u8 0, .int .u8 0, .int .u8 0, .int .u8 0, .int .u8 0, .int .u8 0, .int .u8 0, .int .u8 0, .int .u8 0, .int .u8 0, .int .u8 0, .int .u8 0, .int .u8 0, .int .u8 0, .int .u8 0, .int .u8 0, .int .u8 0, .int .u8 0, .int .u8 0, .int .u8 0, .int .u8 0, .int .u8 0, .int .u8 0, .int .u8 0, .int .u8 0, .int .u8 0, .int .u8 0, .int .u8 0, .int .u8 0, .int .u8 0] 27)).alloc (.cells #[.int .i64 0, .int .i64 0, .int .u8 0, .int .u8 0, .int .u8 0, .int .u8 0, .int .u8 0, .int .u8 0, .int .u8 0, .int .u8 0, .int .u8 0, .int .u8 0, .int .u8 0, .int .u8 0, .int .u8 0, .int .u8 0, .int .u8 0, .int .u8 0, .int .u8 0, .int .u8 0, .int .u8 0, .int .u8 0, .int .u8 0, .int .u8 0, .int .u8 0, .int .u8 0, .int .u8 0, .int .u8 0, .int .u8 0, .int .u8 0, .int .u8 0, .int .u8 0, .int .u8 0, .int .u8 0, .int .u8 0, .int .u8 0, .int .u8 0, .int .u8 0, .int .u8 0, .int .u8 0, .int .u8 0, .int .u8 0, .int .u8 0, .int .u8 0, .int .u8 0, .int .u8 0, .int .u8 0, .int .u8 0, .int .u8 0, .int .u8 0, .int .u8 0, .int .u8 0, .int .u8 0, .int .u8 0, .int .u8 0, .int .u8 0, .int .u8 0, .int .u8 0, .int .u8 0, .int .u8 0, .int .u8 0, .int .u8 0, .int .u8 0, .int .u8 0, .int .u8 0, .int .u8 0] 27)) := (Mine.alloc ⟨by omega, Below.refl _ _⟩ _).alloc _
  have HC := Lib.hid hc
  have R0 := Lib.hid r0
  have R1 := Lib.hid r1
  have M0 := Lib.hid m0
  have H72 := Lib.hid h72
  have HV := Lib.hid hv
  clear hc hcell hv h72 r0 r1 m0 hsz1
  have kz := zeroSeal
  go_enter Try.func24, Try.ntmps24
  go_wp2
  go_loopw [10] (fun x wr => ∃ i : Nat, (x = .int .i64 (i : Int) ∧ i ≤ 4) ∧ Row wr A 27 ZS ∧ Row wr (A + 1) 27 (sealC (nP l 0 i) (nP l 4 i) (List.replicate 32 0) (List.replicate 32 0)) ∧ Mine A w wr) (fun x _ => 4 - (intOf x).toNat)
  case atStart => exact ⟨0, ⟨rfl, by omega⟩, R0.out, R1.out, M0.out⟩
  case round =>
    clear R0 R1 M0
    obtain ⟨i, ⟨rfl, hi⟩, ra, rb, mm⟩ := hrel
    by_cases hlt : i < 4
    · have hb0 : wr.cell? ⟨g, o + i, none⟩ = some (.int .u8 (gb l i)) := (mm.bel.cell (p := ⟨g, o + i, none⟩) hgA).trans (HC.out i (by omega))
      have c0 : wr.cell? ⟨A + 1, 0, none⟩ = some (.int .i64 (nP l 0 i)) := by rw [rb.cell 0]; rfl
      have f0 : wr.frozen? ⟨A + 1, 0, none⟩ = false := rb.frozen 0
      have x4 := nP_4 l 0 i (by omega)
      have x5 := gb_lt' l i
      have p1 := nP_4 l 4 i (by omega)
      have p2 := gb_lt' l (4 + i)
      have o1 := or_add8 (gb l i) (nP l 0 i) x5 x4
      have o2 := or_add8 (gb l (4 + i)) (nP l 4 i) p2 p1
      have x6 : IntKind.i64.wrap ((nP l 0 i : Int) * 256) = (nP l 0 i : Int) * 256 := IntWalk.i64_in _ (by omega)
      have x7 : IntKind.i64.wrap ((nP l 4 i : Int) * 256) = (nP l 4 i : Int) * 256 := IntWalk.i64_in _ (by omega)
      have x8 : IntKind.i64.wrap (4 + (i : Int)) = ((4 + i : Nat) : Int) := by rw [IntWalk.i64_in _ (by omega)]; omega
      have x9 : IntKind.i64.wrap ((i : Int) + 1) = (i : Int) + 1 := IntWalk.i64_in _ (by omega)
      have hi5 : (i : Int) < 72 := by omega
      have hi6 : (0 : Int) ≤ 4 + (i : Int) ∧ 4 + (i : Int) < 72 := by omega
      have hi7 : (4 + (i : Int)).toNat = 4 + i := by omega
      have hi8 : 4 + i < 72 := by omega
      obtain ⟨s0, hs0⟩ : ∃ s0, nP l 0 i = s0 := ⟨_, rfl⟩
      obtain ⟨s1, hs1⟩ : ∃ s1, nP l 4 i = s1 := ⟨_, rfl⟩
      obtain ⟨b0, hb0'⟩ : ∃ b0, gb l i = b0 := ⟨_, rfl⟩
      obtain ⟨b1, hb1'⟩ : ∃ b1, gb l (4 + i) = b1 := ⟨_, rfl⟩
      rw [hs0] at c0 o1 x6
      rw [hs1] at o2 x7
      rw [hb0'] at hb0 o1
      rw [hb1'] at o2
      have x10 : IntKind.i64.wrap (b0 : Int) = (b0 : Int) := IntWalk.i64_in _ (by omega)
      have x11 : IntKind.i64.wrap (b1 : Int) = (b1 : Int) := IntWalk.i64_in _ (by omega)
      obtain ⟨t0, ht0⟩ : ∃ t0, nP l 0 (i + 1) = t0 := ⟨_, rfl⟩
      obtain ⟨t1, ht1⟩ : ∃ t1, nP l 4 (i + 1) = t1 := ⟨_, rfl⟩
      have et0 : s0 * 256 + b0 = t0 := by rw [← ht0, ← hs0, ← hb0', nP, Nat.zero_add]
      have et1 : s1 * 256 + b1 = t1 := by rw [← ht1, ← hs1, ← hb1', nP]
      rw [et0] at o1
      rw [et1] at o2
      have rb1 := rb.set 0 (.int .i64 (t0 : Int))
      have ra1 := ra.other ⟨A + 1, 0, none⟩ (.int .i64 (t0 : Int)) (by simp)
      have m1 := mm.put ⟨A + 1, 0, none⟩ (.int .i64 (t0 : Int)) (by simp)
      have c1 : (wr.setCell ⟨A + 1, 0, none⟩ (.int .i64 (t0 : Int))).cell? ⟨A + 1, 1, none⟩ = some (.int .i64 s1) := by rw [rb1.cell 1, ← hs1]; rfl
      have f1 : (wr.setCell ⟨A + 1, 0, none⟩ (.int .i64 (t0 : Int))).frozen? ⟨A + 1, 1, none⟩ = false := rb1.frozen 1
      have hb1 : (wr.setCell ⟨A + 1, 0, none⟩ (.int .i64 (t0 : Int))).cell? ⟨g, o + (4 + i), none⟩ = some (.int .u8 b1) := by
        rw [← hb1']; exact (m1.bel.cell (p := ⟨g, o + (4 + i), none⟩) hgA).trans (HC.out (4 + i) (by omega))
      have rb2 := rb1.set 1 (.int .i64 (t1 : Int))
      have ra2 := ra1.other ⟨A + 1, 1, none⟩ (.int .i64 (t1 : Int)) (by simp)
      have m2 := m1.put ⟨A + 1, 1, none⟩ (.int .i64 (t1 : Int)) (by simp)
      have RA := Lib.hid ra2
      have RB : Hid (Row ((wr.setCell ⟨A + 1, 0, none⟩ (.int .i64 (t0 : Int))).setCell ⟨A + 1, 1, none⟩ (.int .i64 (t1 : Int))) (A + 1) 27 (sealC (nP l 0 (i + 1)) (nP l 4 (i + 1)) (List.replicate 32 0) (List.replicate 32 0))) := by
        rw [ht0, ht1]; exact rb2
      have MM := Lib.hid m2
      have MA := Lib.hid mm
      have MB := Lib.hid m1
      clear ra rb mm ra1 rb1 m1 ra2 rb2 m2 hs0 hs1 hb0' hb1' ht0 ht1 et0 et1 x4 x5 p1 p2
      go_wp2_with fail
      refine wp_region_noPanic ?_
      refine wp_region_held_drew (S := (fun w' => Mine A w w')) (by kernel_rfl) ?_ (fun hHeld => ?_)
      · exact ⟨MA.out.le, MA.out.bel.drew⟩
      refine wpAnyH_take (i := 0) (oi := { dst := some 13, op := Op.fieldAddr 27 (Operand.tmp 4) 0, type := 0, pos := "seal.go:40", after := #[], guard := none }) (v := ?v0_0) rfl (by kernel_rfl) (by kernel_rfl) (by kernel_rfl) (fun _ _ _ h => h) (Or.inl ⟨by rfl, ?y0_0⟩) (by assumption) ?r0_0
      case y0_0 => intro w hSw; (try dsimp only at hSw); go_simp; try with_reducible rfl
      try simp only [Act.put, List.setIfInBounds_toArray, List.set_cons_zero, List.set_cons_succ]
      refine wpAnyH_take (i := 3) (oi := { dst := some 16, op := Op.move (Operand.tmp 0), type := 34, pos := "seal.go:40", after := #[], guard := none }) (v := ?v3_1) rfl (by kernel_rfl) (by kernel_rfl) (by kernel_rfl) (fun _ _ _ h => h) (Or.inl ⟨by rfl, ?y3_1⟩) (by assumption) ?r3_1
      case y3_1 => intro w hSw; (try dsimp only at hSw); go_simp; try with_reducible rfl
      try simp only [Act.put, List.setIfInBounds_toArray, List.set_cons_zero, List.set_cons_succ]
      refine wpAnyH_take (i := 4) (oi := { dst := some 17, op := Op.move (Operand.tmp 5), type := 3, pos := "seal.go:40", after := #[], guard := none }) (v := ?v4_2) rfl (by kernel_rfl) (by kernel_rfl) (by kernel_rfl) (fun _ _ _ h => h) (Or.inl ⟨by rfl, ?y4_2⟩) (by assumption) ?r4_2
      case y4_2 => intro w hSw; (try dsimp only at hSw); go_simp; try with_reducible rfl
      try simp only [Act.put, List.setIfInBounds_toArray, List.set_cons_zero, List.set_cons_succ]
      refine wpAnyH_take (i := 5) (oi := { dst := some 18, op := Op.indexAddr 34 (Operand.tmp 16) (Operand.tmp 17), type := 0, pos := "seal.go:40", after := #[{ on := 3, ground := Ground.data }, { on := 4, ground := Ground.data }], guard := none }) (v := ?v5_3) rfl (by kernel_rfl) (by kernel_rfl) (by kernel_rfl) (fun _ _ _ h => h) (Or.inl ⟨by rfl, ?y5_3⟩) (by assumption) ?r5_3
      case y5_3 => intro w hSw; (try dsimp only at hSw); go_simp; try with_reducible rfl
      try simp only [Act.put, List.setIfInBounds_toArray, List.set_cons_zero, List.set_cons_succ]
      refine wpAnyH_ready (rs := [1, 6]) (by kernel_rfl) (by simp) (AllReadyH.cons (o := { dst := some 14, op := Op.load 3 (Operand.tmp 13), type := 3, pos := "seal.go:40", after := #[{ on := 0, ground := Ground.data }], guard := none }) rfl (fun K hK => ?_) (AllReadyH.cons (o := { dst := some 19, op := Op.load 5 (Operand.tmp 18), type := 5, pos := "seal.go:40", after := #[{ on := 5, ground := Ground.data }], guard := none }) rfl (fun K hK => ?_) AllReadyH.nil))
      ·
        go_simp
        refine hK.out _ _ ?_ (fun hHeld => ?_)
        · (try dsimp only); first | (go_split_ands; (repeat' apply And.intro) <;> first | assumption | exact Mine.call (by assumption) (by assumption) | exact Mine.alloc (by assumption) _ | exact Mine.setCells (by assumption) _ _ _ (by omega) | exact Mine.callN (by assumption) (by assumption) (by omega) | exact Row.belowN (by assumption) (by assumption) (by omega) | exact there_belowN (by assumption) (by assumption) (by omega) | exact rangeAt_below (by assumption) (by assumption) | exact World.rangeAt_alloc (by assumption) _ | exact World.rangeAt_setCells_apart (by assumption) _ _ _ (Or.inl (by omega)) | exact there_below (by assumption) (by assumption) | exact World.there_alloc (by assumption) _ | exact World.there_setCells (by assumption) _ _ _ | exact Row.belowS (by assumption) (by assumption) | exact Row.alloc (by assumption) _ | exact Row.setCells (by assumption) _ _ (by omega) | exact HS.below (by assumption) (by assumption) | exact SB.below (by assumption) (by assumption) | exact HS.alloc (by assumption) _) | (exact ⟨MB.out.le, MB.out.bel.drew⟩) | (exact ⟨MB.out.le, MB.out.bel⟩) | (exact ⟨MB.out.le, MB.out.bel.drew.drew⟩)
        clear hK K
        try simp only [Act.put, List.setIfInBounds_toArray, List.set_cons_zero, List.set_cons_succ]
        refine wpAnyH_take (i := 2) (oi := { dst := some 15, op := Op.binOp BinOp.shl 3 (Operand.tmp 14) (Operand.const (Value.int IntKind.u64 8)) 53, type := 3, pos := "seal.go:40", after := #[{ on := 1, ground := Ground.data }], guard := none }) (v := ?v2_4) rfl (by kernel_rfl) (by kernel_rfl) (by kernel_rfl) (fun _ _ _ h => h) (Or.inl ⟨by rfl, ?y2_4⟩) (by assumption) ?r2_4
        case y2_4 => intro w hSw; (try dsimp only at hSw); go_simp; try with_reducible rfl
        try simp only [Act.put, List.setIfInBounds_toArray, List.set_cons_zero, List.set_cons_succ]
        refine wpAnyH_ready (rs := [6]) (by kernel_rfl) (by simp) (AllReadyH.cons (o := { dst := some 19, op := Op.load 5 (Operand.tmp 18), type := 5, pos := "seal.go:40", after := #[{ on := 5, ground := Ground.data }], guard := none }) rfl (fun K hK => ?_) AllReadyH.nil)
        go_simp
        refine hK.out _ _ ?_ (fun hHeld => ?_)
        · (try dsimp only); first | (go_split_ands; (repeat' apply And.intro) <;> first | assumption | exact Mine.call (by assumption) (by assumption) | exact Mine.alloc (by assumption) _ | exact Mine.setCells (by assumption) _ _ _ (by omega) | exact Mine.callN (by assumption) (by assumption) (by omega) | exact Row.belowN (by assumption) (by assumption) (by omega) | exact there_belowN (by assumption) (by assumption) (by omega) | exact rangeAt_below (by assumption) (by assumption) | exact World.rangeAt_alloc (by assumption) _ | exact World.rangeAt_setCells_apart (by assumption) _ _ _ (Or.inl (by omega)) | exact there_below (by assumption) (by assumption) | exact World.there_alloc (by assumption) _ | exact World.there_setCells (by assumption) _ _ _ | exact Row.belowS (by assumption) (by assumption) | exact Row.alloc (by assumption) _ | exact Row.setCells (by assumption) _ _ (by omega) | exact HS.below (by assumption) (by assumption) | exact SB.below (by assumption) (by assumption) | exact HS.alloc (by assumption) _) | (exact ⟨MB.out.le, MB.out.bel.drew⟩) | (exact ⟨MB.out.le, MB.out.bel⟩) | (exact ⟨MB.out.le, MB.out.bel.drew.drew⟩)
        clear hK K
        try simp only [Act.put, List.setIfInBounds_toArray, List.set_cons_zero, List.set_cons_succ]
        refine wpAnyH_take (i := 7) (oi := { dst := some 20, op := Op.convert 5 3 (Operand.tmp 19), type := 3, pos := "seal.go:40", after := #[{ on := 6, ground := Ground.data }], guard := none }) (v := ?v7_5) rfl (by kernel_rfl) (by kernel_rfl) (by kernel_rfl) (fun _ _ _ h => h) (Or.inl ⟨by rfl, ?y7_5⟩) (by assumption) ?r7_5
        case y7_5 => intro w hSw; (try dsimp only at hSw); go_simp; try with_reducible rfl
        try simp only [Act.put, List.setIfInBounds_toArray, List.set_cons_zero, List.set_cons_succ]
        refine wpAnyH_take (i := 8) (oi := { dst := some 21, op := Op.binOp BinOp.or 3 (Operand.tmp 15) (Operand.tmp 20) 3, type := 3, pos := "seal.go:40", after := #[{ on := 2, ground := Ground.data }, { on := 7, ground := Ground.data }], guard := none }) (v := ?v8_6) rfl (by kernel_rfl) (by kernel_rfl) (by kernel_rfl) (fun _ _ _ h => h) (Or.inl ⟨by rfl, ?y8_6⟩) (by assumption) ?r8_6
        case y8_6 => intro w hSw; (try dsimp only at hSw); go_simp; try with_reducible rfl
        try simp only [Act.put, List.setIfInBounds_toArray, List.set_cons_zero, List.set_cons_succ]
        refine wpAnyH_take (i := 9) (oi := { dst := some 22, op := Op.fieldAddr 27 (Operand.tmp 4) 0, type := 0, pos := "seal.go:40", after := #[{ on := 0, ground := Ground.phase }, { on := 1, ground := Ground.phase }, { on := 2, ground := Ground.phase }, { on := 3, ground := Ground.phase }, { on := 4, ground := Ground.phase }, { on := 5, ground := Ground.phase }, { on := 6, ground := Ground.phase }, { on := 7, ground := Ground.phase }, { on := 8, ground := Ground.phase }], guard := none }) (v := ?v9_7) rfl (by kernel_rfl) (by kernel_rfl) (by kernel_rfl) (fun _ _ _ h => h) (Or.inl ⟨by rfl, ?y9_7⟩) (by assumption) ?r9_7
        case y9_7 => intro w hSw; (try dsimp only at hSw); go_simp; try with_reducible rfl
        try simp only [Act.put, List.setIfInBounds_toArray, List.set_cons_zero, List.set_cons_succ]
        refine wpAnyH_ready (rs := [10]) (by kernel_rfl) (by simp) (AllReadyH.cons (o := { dst := none, op := Op.store 3 (Operand.tmp 22) (Operand.tmp 21), type := 0, pos := "seal.go:40", after := #[{ on := 9, ground := Ground.data }, { on := 8, ground := Ground.data }, { on := 0, ground := Ground.phase }, { on := 1, ground := Ground.phase }, { on := 2, ground := Ground.phase }, { on := 3, ground := Ground.phase }, { on := 4, ground := Ground.phase }, { on := 5, ground := Ground.phase }, { on := 6, ground := Ground.phase }, { on := 7, ground := Ground.phase }, { on := 8, ground := Ground.phase }], guard := none }) rfl (fun K hK => ?_) AllReadyH.nil)
        go_simp
        refine hK.out _ _ ?_ (fun hHeld => ?_)
        · (try dsimp only); first | (go_split_ands; (repeat' apply And.intro) <;> first | assumption | exact Mine.call (by assumption) (by assumption) | exact Mine.alloc (by assumption) _ | exact Mine.setCells (by assumption) _ _ _ (by omega) | exact Mine.callN (by assumption) (by assumption) (by omega) | exact Row.belowN (by assumption) (by assumption) (by omega) | exact there_belowN (by assumption) (by assumption) (by omega) | exact rangeAt_below (by assumption) (by assumption) | exact World.rangeAt_alloc (by assumption) _ | exact World.rangeAt_setCells_apart (by assumption) _ _ _ (Or.inl (by omega)) | exact there_below (by assumption) (by assumption) | exact World.there_alloc (by assumption) _ | exact World.there_setCells (by assumption) _ _ _ | exact Row.belowS (by assumption) (by assumption) | exact Row.alloc (by assumption) _ | exact Row.setCells (by assumption) _ _ (by omega) | exact HS.below (by assumption) (by assumption) | exact SB.below (by assumption) (by assumption) | exact HS.alloc (by assumption) _) | (exact ⟨MB.out.le, MB.out.bel.drew⟩) | (exact ⟨MB.out.le, MB.out.bel⟩) | (exact ⟨MB.out.le, MB.out.bel.drew.drew⟩)
        clear hK K
        try simp only [Act.put, List.setIfInBounds_toArray, List.set_cons_zero, List.set_cons_succ]
        refine wpAnyH_done (by kernel_rfl) ?_ _
        refine NoPanic.normal ?_
        clear hHeld c0 f0 hb0
        go_wp2_with fail
        refine wp_region_noPanic ?_
        refine wp_region_held_drew (S := (fun w' => Mine A w w')) (by kernel_rfl) ?_ (fun hHeld => ?_)
        · first | exact ⟨MB.out.le, MB.out.bel.drew⟩ | exact ⟨MB.out.le, MB.out.bel.drew.drew⟩
        refine wpAnyH_take (i := 0) (oi := { dst := some 23, op := Op.fieldAddr 27 (Operand.tmp 4) 1, type := 0, pos := "seal.go:41", after := #[], guard := none }) (v := ?v0_20) rfl (by kernel_rfl) (by kernel_rfl) (by kernel_rfl) (fun _ _ _ h => h) (Or.inl ⟨by rfl, ?y0_20⟩) (by assumption) ?r0_20
        case y0_20 => intro w hSw; (try dsimp only at hSw); go_simp; try with_reducible rfl
        try simp only [Act.put, List.setIfInBounds_toArray, List.set_cons_zero, List.set_cons_succ]
        refine wpAnyH_take (i := 3) (oi := { dst := some 26, op := Op.move (Operand.tmp 0), type := 34, pos := "seal.go:41", after := #[], guard := none }) (v := ?v3_21) rfl (by kernel_rfl) (by kernel_rfl) (by kernel_rfl) (fun _ _ _ h => h) (Or.inl ⟨by rfl, ?y3_21⟩) (by assumption) ?r3_21
        case y3_21 => intro w hSw; (try dsimp only at hSw); go_simp; try with_reducible rfl
        try simp only [Act.put, List.setIfInBounds_toArray, List.set_cons_zero, List.set_cons_succ]
        refine wpAnyH_take (i := 4) (oi := { dst := some 27, op := Op.move (Operand.tmp 5), type := 3, pos := "seal.go:41", after := #[], guard := none }) (v := ?v4_22) rfl (by kernel_rfl) (by kernel_rfl) (by kernel_rfl) (fun _ _ _ h => h) (Or.inl ⟨by rfl, ?y4_22⟩) (by assumption) ?r4_22
        case y4_22 => intro w hSw; (try dsimp only at hSw); go_simp; try with_reducible rfl
        try simp only [Act.put, List.setIfInBounds_toArray, List.set_cons_zero, List.set_cons_succ]
        refine wpAnyH_take (i := 5) (oi := { dst := some 28, op := Op.binOp BinOp.add 3 (Operand.const (Value.int IntKind.i64 4)) (Operand.tmp 27) 3, type := 3, pos := "seal.go:41", after := #[{ on := 4, ground := Ground.data }], guard := none }) (v := ?v5_23) rfl (by kernel_rfl) (by kernel_rfl) (by kernel_rfl) (fun _ _ _ h => h) (Or.inl ⟨by rfl, ?y5_23⟩) (by assumption) ?r5_23
        case y5_23 => intro w hSw; (try dsimp only at hSw); go_simp; try with_reducible rfl
        try simp only [Act.put, List.setIfInBounds_toArray, List.set_cons_zero, List.set_cons_succ]
        refine wpAnyH_take (i := 6) (oi := { dst := some 29, op := Op.indexAddr 34 (Operand.tmp 26) (Operand.tmp 28), type := 0, pos := "seal.go:41", after := #[{ on := 3, ground := Ground.data }, { on := 5, ground := Ground.data }], guard := none }) (v := ?v6_24) rfl (by kernel_rfl) (by kernel_rfl) (by kernel_rfl) (fun _ _ _ h => h) (Or.inl ⟨by rfl, ?y6_24⟩) (by assumption) ?r6_24
        case y6_24 => intro w hSw; (try dsimp only at hSw); go_simp; try with_reducible rfl
        try simp only [Act.put, List.setIfInBounds_toArray, List.set_cons_zero, List.set_cons_succ]
        refine wpAnyH_ready (rs := [1, 7]) (by kernel_rfl) (by simp) (AllReadyH.cons (o := { dst := some 24, op := Op.load 3 (Operand.tmp 23), type := 3, pos := "seal.go:41", after := #[{ on := 0, ground := Ground.data }], guard := none }) rfl (fun K hK => ?_) (AllReadyH.cons (o := { dst := some 30, op := Op.load 5 (Operand.tmp 29), type := 5, pos := "seal.go:41", after := #[{ on := 6, ground := Ground.data }], guard := none }) rfl (fun K hK => ?_) AllReadyH.nil))
        ·
          go_simp
          refine hK.out _ _ ?_ (fun hHeld => ?_)
          · (try dsimp only); first | (go_split_ands; (repeat' apply And.intro) <;> first | assumption | exact Mine.call (by assumption) (by assumption) | exact Mine.alloc (by assumption) _ | exact Mine.setCells (by assumption) _ _ _ (by omega) | exact Mine.callN (by assumption) (by assumption) (by omega) | exact Row.belowN (by assumption) (by assumption) (by omega) | exact there_belowN (by assumption) (by assumption) (by omega) | exact rangeAt_below (by assumption) (by assumption) | exact World.rangeAt_alloc (by assumption) _ | exact World.rangeAt_setCells_apart (by assumption) _ _ _ (Or.inl (by omega)) | exact there_below (by assumption) (by assumption) | exact World.there_alloc (by assumption) _ | exact World.there_setCells (by assumption) _ _ _ | exact Row.belowS (by assumption) (by assumption) | exact Row.alloc (by assumption) _ | exact Row.setCells (by assumption) _ _ (by omega) | exact HS.below (by assumption) (by assumption) | exact SB.below (by assumption) (by assumption) | exact HS.alloc (by assumption) _) | (exact ⟨MM.out.le, MM.out.bel.drew⟩) | (exact ⟨MM.out.le, MM.out.bel⟩) | (exact ⟨MM.out.le, MM.out.bel.drew.drew⟩)
          clear hK K
          try simp only [Act.put, List.setIfInBounds_toArray, List.set_cons_zero, List.set_cons_succ]
          refine wpAnyH_take (i := 2) (oi := { dst := some 25, op := Op.binOp BinOp.shl 3 (Operand.tmp 24) (Operand.const (Value.int IntKind.u64 8)) 53, type := 3, pos := "seal.go:41", after := #[{ on := 1, ground := Ground.data }], guard := none }) (v := ?v2_25) rfl (by kernel_rfl) (by kernel_rfl) (by kernel_rfl) (fun _ _ _ h => h) (Or.inl ⟨by rfl, ?y2_25⟩) (by assumption) ?r2_25
          case y2_25 => intro w hSw; (try dsimp only at hSw); go_simp; try with_reducible rfl
          try simp only [Act.put, List.setIfInBounds_toArray, List.set_cons_zero, List.set_cons_succ]
          refine wpAnyH_ready (rs := [7]) (by kernel_rfl) (by simp) (AllReadyH.cons (o := { dst := some 30, op := Op.load 5 (Operand.tmp 29), type := 5, pos := "seal.go:41", after := #[{ on := 6, ground := Ground.data }], guard := none }) rfl (fun K hK => ?_) AllReadyH.nil)
          go_simp
          refine hK.out _ _ ?_ (fun hHeld => ?_)
          · (try dsimp only); first | (go_split_ands; (repeat' apply And.intro) <;> first | assumption | exact Mine.call (by assumption) (by assumption) | exact Mine.alloc (by assumption) _ | exact Mine.setCells (by assumption) _ _ _ (by omega) | exact Mine.callN (by assumption) (by assumption) (by omega) | exact Row.belowN (by assumption) (by assumption) (by omega) | exact there_belowN (by assumption) (by assumption) (by omega) | exact rangeAt_below (by assumption) (by assumption) | exact World.rangeAt_alloc (by assumption) _ | exact World.rangeAt_setCells_apart (by assumption) _ _ _ (Or.inl (by omega)) | exact there_below (by assumption) (by assumption) | exact World.there_alloc (by assumption) _ | exact World.there_setCells (by assumption) _ _ _ | exact Row.belowS (by assumption) (by assumption) | exact Row.alloc (by assumption) _ | exact Row.setCells (by assumption) _ _ (by omega) | exact HS.below (by assumption) (by assumption) | exact SB.below (by assumption) (by assumption) | exact HS.alloc (by assumption) _) | (exact ⟨MM.out.le, MM.out.bel.drew⟩) | (exact ⟨MM.out.le, MM.out.bel⟩) | (exact ⟨MM.out.le, MM.out.bel.drew.drew⟩)
          clear hK K
          try simp only [Act.put, List.setIfInBounds_toArray, List.set_cons_zero, List.set_cons_succ]
          refine wpAnyH_take (i := 8) (oi := { dst := some 31, op := Op.convert 5 3 (Operand.tmp 30), type := 3, pos := "seal.go:41", after := #[{ on := 7, ground := Ground.data }], guard := none }) (v := ?v8_26) rfl (by kernel_rfl) (by kernel_rfl) (by kernel_rfl) (fun _ _ _ h => h) (Or.inl ⟨by rfl, ?y8_26⟩) (by assumption) ?r8_26
          case y8_26 => intro w hSw; (try dsimp only at hSw); go_simp; try with_reducible rfl
          try simp only [Act.put, List.setIfInBounds_toArray, List.set_cons_zero, List.set_cons_succ]
          refine wpAnyH_take (i := 9) (oi := { dst := some 32, op := Op.binOp BinOp.or 3 (Operand.tmp 25) (Operand.tmp 31) 3, type := 3, pos := "seal.go:41", after := #[{ on := 2, ground := Ground.data }, { on := 8, ground := Ground.data }], guard := none }) (v := ?v9_27) rfl (by kernel_rfl) (by kernel_rfl) (by kernel_rfl) (fun _ _ _ h => h) (Or.inl ⟨by rfl, ?y9_27⟩) (by assumption) ?r9_27
          case y9_27 => intro w hSw; (try dsimp only at hSw); go_simp; try with_reducible rfl
          try simp only [Act.put, List.setIfInBounds_toArray, List.set_cons_zero, List.set_cons_succ]
          refine wpAnyH_take (i := 10) (oi := { dst := some 33, op := Op.fieldAddr 27 (Operand.tmp 4) 1, type := 0, pos := "seal.go:41", after := #[{ on := 0, ground := Ground.phase }, { on := 1, ground := Ground.phase }, { on := 2, ground := Ground.phase }, { on := 3, ground := Ground.phase }, { on := 4, ground := Ground.phase }, { on := 5, ground := Ground.phase }, { on := 6, ground := Ground.phase }, { on := 7, ground := Ground.phase }, { on := 8, ground := Ground.phase }, { on := 9, ground := Ground.phase }], guard := none }) (v := ?v10_28) rfl (by kernel_rfl) (by kernel_rfl) (by kernel_rfl) (fun _ _ _ h => h) (Or.inl ⟨by rfl, ?y10_28⟩) (by assumption) ?r10_28
          case y10_28 => intro w hSw; (try dsimp only at hSw); go_simp; try with_reducible rfl
          try simp only [Act.put, List.setIfInBounds_toArray, List.set_cons_zero, List.set_cons_succ]
          refine wpAnyH_ready (rs := [11]) (by kernel_rfl) (by simp) (AllReadyH.cons (o := { dst := none, op := Op.store 3 (Operand.tmp 33) (Operand.tmp 32), type := 0, pos := "seal.go:41", after := #[{ on := 10, ground := Ground.data }, { on := 9, ground := Ground.data }, { on := 0, ground := Ground.phase }, { on := 1, ground := Ground.phase }, { on := 2, ground := Ground.phase }, { on := 3, ground := Ground.phase }, { on := 4, ground := Ground.phase }, { on := 5, ground := Ground.phase }, { on := 6, ground := Ground.phase }, { on := 7, ground := Ground.phase }, { on := 8, ground := Ground.phase }, { on := 9, ground := Ground.phase }], guard := none }) rfl (fun K hK => ?_) AllReadyH.nil)
          go_simp
          refine hK.out _ _ ?_ (fun hHeld => ?_)
          · (try dsimp only); first | (go_split_ands; (repeat' apply And.intro) <;> first | assumption | exact Mine.call (by assumption) (by assumption) | exact Mine.alloc (by assumption) _ | exact Mine.setCells (by assumption) _ _ _ (by omega) | exact Mine.callN (by assumption) (by assumption) (by omega) | exact Row.belowN (by assumption) (by assumption) (by omega) | exact there_belowN (by assumption) (by assumption) (by omega) | exact rangeAt_below (by assumption) (by assumption) | exact World.rangeAt_alloc (by assumption) _ | exact World.rangeAt_setCells_apart (by assumption) _ _ _ (Or.inl (by omega)) | exact there_below (by assumption) (by assumption) | exact World.there_alloc (by assumption) _ | exact World.there_setCells (by assumption) _ _ _ | exact Row.belowS (by assumption) (by assumption) | exact Row.alloc (by assumption) _ | exact Row.setCells (by assumption) _ _ (by omega) | exact HS.below (by assumption) (by assumption) | exact SB.below (by assumption) (by assumption) | exact HS.alloc (by assumption) _) | (exact ⟨MM.out.le, MM.out.bel.drew⟩) | (exact ⟨MM.out.le, MM.out.bel⟩) | (exact ⟨MM.out.le, MM.out.bel.drew.drew⟩)
          clear hK K
          try simp only [Act.put, List.setIfInBounds_toArray, List.set_cons_zero, List.set_cons_succ]
          refine wpAnyH_done (by kernel_rfl) ?_ _
          refine NoPanic.normal ?_
          clear hHeld
          go_wp2
          go_roundw
          case rel => exact ⟨i + 1, ⟨by go_num, by omega⟩, RA.out, RB.out, ⟨MM.out.le, MM.out.bel.drew.drew⟩⟩
          case measure => simp [intOf]; omega
        ·
          go_simp
          refine hK.out _ _ ?_ (fun hHeld => ?_)
          · (try dsimp only); first | (go_split_ands; (repeat' apply And.intro) <;> first | assumption | exact Mine.call (by assumption) (by assumption) | exact Mine.alloc (by assumption) _ | exact Mine.setCells (by assumption) _ _ _ (by omega) | exact Mine.callN (by assumption) (by assumption) (by omega) | exact Row.belowN (by assumption) (by assumption) (by omega) | exact there_belowN (by assumption) (by assumption) (by omega) | exact rangeAt_below (by assumption) (by assumption) | exact World.rangeAt_alloc (by assumption) _ | exact World.rangeAt_setCells_apart (by assumption) _ _ _ (Or.inl (by omega)) | exact there_below (by assumption) (by assumption) | exact World.there_alloc (by assumption) _ | exact World.there_setCells (by assumption) _ _ _ | exact Row.belowS (by assumption) (by assumption) | exact Row.alloc (by assumption) _ | exact Row.setCells (by assumption) _ _ (by omega) | exact HS.below (by assumption) (by assumption) | exact SB.below (by assumption) (by assumption) | exact HS.alloc (by assumption) _) | (exact ⟨MM.out.le, MM.out.bel.drew⟩) | (exact ⟨MM.out.le, MM.out.bel⟩) | (exact ⟨MM.out.le, MM.out.bel.drew.drew⟩)
          clear hK K
          try simp only [Act.put, List.setIfInBounds_toArray, List.set_cons_zero, List.set_cons_succ]
          refine wpAnyH_take (i := 8) (oi := { dst := some 31, op := Op.convert 5 3 (Operand.tmp 30), type := 3, pos := "seal.go:41", after := #[{ on := 7, ground := Ground.data }], guard := none }) (v := ?v8_29) rfl (by kernel_rfl) (by kernel_rfl) (by kernel_rfl) (fun _ _ _ h => h) (Or.inl ⟨by rfl, ?y8_29⟩) (by assumption) ?r8_29
          case y8_29 => intro w hSw; (try dsimp only at hSw); go_simp; try with_reducible rfl
          try simp only [Act.put, List.setIfInBounds_toArray, List.set_cons_zero, List.set_cons_succ]
          refine wpAnyH_ready (rs := [1]) (by kernel_rfl) (by simp) (AllReadyH.cons (o := { dst := some 24, op := Op.load 3 (Operand.tmp 23), type := 3, pos := "seal.go:41", after := #[{ on := 0, ground := Ground.data }], guard := none }) rfl (fun K hK => ?_) AllReadyH.nil)
          go_simp
          refine hK.out _ _ ?_ (fun hHeld => ?_)
          · (try dsimp only); first | (go_split_ands; (repeat' apply And.intro) <;> first | assumption | exact Mine.call (by assumption) (by assumption) | exact Mine.alloc (by assumption) _ | exact Mine.setCells (by assumption) _ _ _ (by omega) | exact Mine.callN (by assumption) (by assumption) (by omega) | exact Row.belowN (by assumption) (by assumption) (by omega) | exact there_belowN (by assumption) (by assumption) (by omega) | exact rangeAt_below (by assumption) (by assumption) | exact World.rangeAt_alloc (by assumption) _ | exact World.rangeAt_setCells_apart (by assumption) _ _ _ (Or.inl (by omega)) | exact there_below (by assumption) (by assumption) | exact World.there_alloc (by assumption) _ | exact World.there_setCells (by assumption) _ _ _ | exact Row.belowS (by assumption) (by assumption) | exact Row.alloc (by assumption) _ | exact Row.setCells (by assumption) _ _ (by omega) | exact HS.below (by assumption) (by assumption) | exact SB.below (by assumption) (by assumption) | exact HS.alloc (by assumption) _) | (exact ⟨MM.out.le, MM.out.bel.drew⟩) | (exact ⟨MM.out.le, MM.out.bel⟩) | (exact ⟨MM.out.le, MM.out.bel.drew.drew⟩)
          clear hK K
          try simp only [Act.put, List.setIfInBounds_toArray, List.set_cons_zero, List.set_cons_succ]
          refine wpAnyH_take (i := 2) (oi := { dst := some 25, op := Op.binOp BinOp.shl 3 (Operand.tmp 24) (Operand.const (Value.int IntKind.u64 8)) 53, type := 3, pos := "seal.go:41", after := #[{ on := 1, ground := Ground.data }], guard := none }) (v := ?v2_30) rfl (by kernel_rfl) (by kernel_rfl) (by kernel_rfl) (fun _ _ _ h => h) (Or.inl ⟨by rfl, ?y2_30⟩) (by assumption) ?r2_30
          case y2_30 => intro w hSw; (try dsimp only at hSw); go_simp; try with_reducible rfl
          try simp only [Act.put, List.setIfInBounds_toArray, List.set_cons_zero, List.set_cons_succ]
          refine wpAnyH_take (i := 9) (oi := { dst := some 32, op := Op.binOp BinOp.or 3 (Operand.tmp 25) (Operand.tmp 31) 3, type := 3, pos := "seal.go:41", after := #[{ on := 2, ground := Ground.data }, { on := 8, ground := Ground.data }], guard := none }) (v := ?v9_31) rfl (by kernel_rfl) (by kernel_rfl) (by kernel_rfl) (fun _ _ _ h => h) (Or.inl ⟨by rfl, ?y9_31⟩) (by assumption) ?r9_31
          case y9_31 => intro w hSw; (try dsimp only at hSw); go_simp; try with_reducible rfl
          try simp only [Act.put, List.setIfInBounds_toArray, List.set_cons_zero, List.set_cons_succ]
          refine wpAnyH_take (i := 10) (oi := { dst := some 33, op := Op.fieldAddr 27 (Operand.tmp 4) 1, type := 0, pos := "seal.go:41", after := #[{ on := 0, ground := Ground.phase }, { on := 1, ground := Ground.phase }, { on := 2, ground := Ground.phase }, { on := 3, ground := Ground.phase }, { on := 4, ground := Ground.phase }, { on := 5, ground := Ground.phase }, { on := 6, ground := Ground.phase }, { on := 7, ground := Ground.phase }, { on := 8, ground := Ground.phase }, { on := 9, ground := Ground.phase }], guard := none }) (v := ?v10_32) rfl (by kernel_rfl) (by kernel_rfl) (by kernel_rfl) (fun _ _ _ h => h) (Or.inl ⟨by rfl, ?y10_32⟩) (by assumption) ?r10_32
          case y10_32 => intro w hSw; (try dsimp only at hSw); go_simp; try with_reducible rfl
          try simp only [Act.put, List.setIfInBounds_toArray, List.set_cons_zero, List.set_cons_succ]
          refine wpAnyH_ready (rs := [11]) (by kernel_rfl) (by simp) (AllReadyH.cons (o := { dst := none, op := Op.store 3 (Operand.tmp 33) (Operand.tmp 32), type := 0, pos := "seal.go:41", after := #[{ on := 10, ground := Ground.data }, { on := 9, ground := Ground.data }, { on := 0, ground := Ground.phase }, { on := 1, ground := Ground.phase }, { on := 2, ground := Ground.phase }, { on := 3, ground := Ground.phase }, { on := 4, ground := Ground.phase }, { on := 5, ground := Ground.phase }, { on := 6, ground := Ground.phase }, { on := 7, ground := Ground.phase }, { on := 8, ground := Ground.phase }, { on := 9, ground := Ground.phase }], guard := none }) rfl (fun K hK => ?_) AllReadyH.nil)
          go_simp
          refine hK.out _ _ ?_ (fun hHeld => ?_)
          · (try dsimp only); first | (go_split_ands; (repeat' apply And.intro) <;> first | assumption | exact Mine.call (by assumption) (by assumption) | exact Mine.alloc (by assumption) _ | exact Mine.setCells (by assumption) _ _ _ (by omega) | exact Mine.callN (by assumption) (by assumption) (by omega) | exact Row.belowN (by assumption) (by assumption) (by omega) | exact there_belowN (by assumption) (by assumption) (by omega) | exact rangeAt_below (by assumption) (by assumption) | exact World.rangeAt_alloc (by assumption) _ | exact World.rangeAt_setCells_apart (by assumption) _ _ _ (Or.inl (by omega)) | exact there_below (by assumption) (by assumption) | exact World.there_alloc (by assumption) _ | exact World.there_setCells (by assumption) _ _ _ | exact Row.belowS (by assumption) (by assumption) | exact Row.alloc (by assumption) _ | exact Row.setCells (by assumption) _ _ (by omega) | exact HS.below (by assumption) (by assumption) | exact SB.below (by assumption) (by assumption) | exact HS.alloc (by assumption) _) | (exact ⟨MM.out.le, MM.out.bel.drew⟩) | (exact ⟨MM.out.le, MM.out.bel⟩) | (exact ⟨MM.out.le, MM.out.bel.drew.drew⟩)
          clear hK K
          try simp only [Act.put, List.setIfInBounds_toArray, List.set_cons_zero, List.set_cons_succ]
          refine wpAnyH_done (by kernel_rfl) ?_ _
          refine NoPanic.normal ?_
          clear hHeld
          go_wp2
          go_roundw
          case rel => exact ⟨i + 1, ⟨by go_num, by omega⟩, RA.out, RB.out, ⟨MM.out.le, MM.out.bel.drew.drew⟩⟩
          case measure => simp [intOf]; omega
      ·
        go_simp
        refine hK.out _ _ ?_ (fun hHeld => ?_)
        · (try dsimp only); first | (go_split_ands; (repeat' apply And.intro) <;> first | assumption | exact Mine.call (by assumption) (by assumption) | exact Mine.alloc (by assumption) _ | exact Mine.setCells (by assumption) _ _ _ (by omega) | exact Mine.callN (by assumption) (by assumption) (by omega) | exact Row.belowN (by assumption) (by assumption) (by omega) | exact there_belowN (by assumption) (by assumption) (by omega) | exact rangeAt_below (by assumption) (by assumption) | exact World.rangeAt_alloc (by assumption) _ | exact World.rangeAt_setCells_apart (by assumption) _ _ _ (Or.inl (by omega)) | exact there_below (by assumption) (by assumption) | exact World.there_alloc (by assumption) _ | exact World.there_setCells (by assumption) _ _ _ | exact Row.belowS (by assumption) (by assumption) | exact Row.alloc (by assumption) _ | exact Row.setCells (by assumption) _ _ (by omega) | exact HS.below (by assumption) (by assumption) | exact SB.below (by assumption) (by assumption) | exact HS.alloc (by assumption) _) | (exact ⟨MB.out.le, MB.out.bel.drew⟩) | (exact ⟨MB.out.le, MB.out.bel⟩) | (exact ⟨MB.out.le, MB.out.bel.drew.drew⟩)
        clear hK K
        try simp only [Act.put, List.setIfInBounds_toArray, List.set_cons_zero, List.set_cons_succ]
        refine wpAnyH_take (i := 7) (oi := { dst := some 20, op := Op.convert 5 3 (Operand.tmp 19), type := 3, pos := "seal.go:40", after := #[{ on := 6, ground := Ground.data }], guard := none }) (v := ?v7_8) rfl (by kernel_rfl) (by kernel_rfl) (by kernel_rfl) (fun _ _ _ h => h) (Or.inl ⟨by rfl, ?y7_8⟩) (by assumption) ?r7_8
        case y7_8 => intro w hSw; (try dsimp only at hSw); go_simp; try with_reducible rfl
        try simp only [Act.put, List.setIfInBounds_toArray, List.set_cons_zero, List.set_cons_succ]
        refine wpAnyH_ready (rs := [1]) (by kernel_rfl) (by simp) (AllReadyH.cons (o := { dst := some 14, op := Op.load 3 (Operand.tmp 13), type := 3, pos := "seal.go:40", after := #[{ on := 0, ground := Ground.data }], guard := none }) rfl (fun K hK => ?_) AllReadyH.nil)
        go_simp
        refine hK.out _ _ ?_ (fun hHeld => ?_)
        · (try dsimp only); first | (go_split_ands; (repeat' apply And.intro) <;> first | assumption | exact Mine.call (by assumption) (by assumption) | exact Mine.alloc (by assumption) _ | exact Mine.setCells (by assumption) _ _ _ (by omega) | exact Mine.callN (by assumption) (by assumption) (by omega) | exact Row.belowN (by assumption) (by assumption) (by omega) | exact there_belowN (by assumption) (by assumption) (by omega) | exact rangeAt_below (by assumption) (by assumption) | exact World.rangeAt_alloc (by assumption) _ | exact World.rangeAt_setCells_apart (by assumption) _ _ _ (Or.inl (by omega)) | exact there_below (by assumption) (by assumption) | exact World.there_alloc (by assumption) _ | exact World.there_setCells (by assumption) _ _ _ | exact Row.belowS (by assumption) (by assumption) | exact Row.alloc (by assumption) _ | exact Row.setCells (by assumption) _ _ (by omega) | exact HS.below (by assumption) (by assumption) | exact SB.below (by assumption) (by assumption) | exact HS.alloc (by assumption) _) | (exact ⟨MB.out.le, MB.out.bel.drew⟩) | (exact ⟨MB.out.le, MB.out.bel⟩) | (exact ⟨MB.out.le, MB.out.bel.drew.drew⟩)
        clear hK K
        try simp only [Act.put, List.setIfInBounds_toArray, List.set_cons_zero, List.set_cons_succ]
        refine wpAnyH_take (i := 2) (oi := { dst := some 15, op := Op.binOp BinOp.shl 3 (Operand.tmp 14) (Operand.const (Value.int IntKind.u64 8)) 53, type := 3, pos := "seal.go:40", after := #[{ on := 1, ground := Ground.data }], guard := none }) (v := ?v2_9) rfl (by kernel_rfl) (by kernel_rfl) (by kernel_rfl) (fun _ _ _ h => h) (Or.inl ⟨by rfl, ?y2_9⟩) (by assumption) ?r2_9
        case y2_9 => intro w hSw; (try dsimp only at hSw); go_simp; try with_reducible rfl
        try simp only [Act.put, List.setIfInBounds_toArray, List.set_cons_zero, List.set_cons_succ]
        refine wpAnyH_take (i := 8) (oi := { dst := some 21, op := Op.binOp BinOp.or 3 (Operand.tmp 15) (Operand.tmp 20) 3, type := 3, pos := "seal.go:40", after := #[{ on := 2, ground := Ground.data }, { on := 7, ground := Ground.data }], guard := none }) (v := ?v8_10) rfl (by kernel_rfl) (by kernel_rfl) (by kernel_rfl) (fun _ _ _ h => h) (Or.inl ⟨by rfl, ?y8_10⟩) (by assumption) ?r8_10
        case y8_10 => intro w hSw; (try dsimp only at hSw); go_simp; try with_reducible rfl
        try simp only [Act.put, List.setIfInBounds_toArray, List.set_cons_zero, List.set_cons_succ]
        refine wpAnyH_take (i := 9) (oi := { dst := some 22, op := Op.fieldAddr 27 (Operand.tmp 4) 0, type := 0, pos := "seal.go:40", after := #[{ on := 0, ground := Ground.phase }, { on := 1, ground := Ground.phase }, { on := 2, ground := Ground.phase }, { on := 3, ground := Ground.phase }, { on := 4, ground := Ground.phase }, { on := 5, ground := Ground.phase }, { on := 6, ground := Ground.phase }, { on := 7, ground := Ground.phase }, { on := 8, ground := Ground.phase }], guard := none }) (v := ?v9_11) rfl (by kernel_rfl) (by kernel_rfl) (by kernel_rfl) (fun _ _ _ h => h) (Or.inl ⟨by rfl, ?y9_11⟩) (by assumption) ?r9_11
        case y9_11 => intro w hSw; (try dsimp only at hSw); go_simp; try with_reducible rfl
        try simp only [Act.put, List.setIfInBounds_toArray, List.set_cons_zero, List.set_cons_succ]
        refine wpAnyH_ready (rs := [10]) (by kernel_rfl) (by simp) (AllReadyH.cons (o := { dst := none, op := Op.store 3 (Operand.tmp 22) (Operand.tmp 21), type := 0, pos := "seal.go:40", after := #[{ on := 9, ground := Ground.data }, { on := 8, ground := Ground.data }, { on := 0, ground := Ground.phase }, { on := 1, ground := Ground.phase }, { on := 2, ground := Ground.phase }, { on := 3, ground := Ground.phase }, { on := 4, ground := Ground.phase }, { on := 5, ground := Ground.phase }, { on := 6, ground := Ground.phase }, { on := 7, ground := Ground.phase }, { on := 8, ground := Ground.phase }], guard := none }) rfl (fun K hK => ?_) AllReadyH.nil)
        go_simp
        refine hK.out _ _ ?_ (fun hHeld => ?_)
        · (try dsimp only); first | (go_split_ands; (repeat' apply And.intro) <;> first | assumption | exact Mine.call (by assumption) (by assumption) | exact Mine.alloc (by assumption) _ | exact Mine.setCells (by assumption) _ _ _ (by omega) | exact Mine.callN (by assumption) (by assumption) (by omega) | exact Row.belowN (by assumption) (by assumption) (by omega) | exact there_belowN (by assumption) (by assumption) (by omega) | exact rangeAt_below (by assumption) (by assumption) | exact World.rangeAt_alloc (by assumption) _ | exact World.rangeAt_setCells_apart (by assumption) _ _ _ (Or.inl (by omega)) | exact there_below (by assumption) (by assumption) | exact World.there_alloc (by assumption) _ | exact World.there_setCells (by assumption) _ _ _ | exact Row.belowS (by assumption) (by assumption) | exact Row.alloc (by assumption) _ | exact Row.setCells (by assumption) _ _ (by omega) | exact HS.below (by assumption) (by assumption) | exact SB.below (by assumption) (by assumption) | exact HS.alloc (by assumption) _) | (exact ⟨MB.out.le, MB.out.bel.drew⟩) | (exact ⟨MB.out.le, MB.out.bel⟩) | (exact ⟨MB.out.le, MB.out.bel.drew.drew⟩)
        clear hK K
        try simp only [Act.put, List.setIfInBounds_toArray, List.set_cons_zero, List.set_cons_succ]
        refine wpAnyH_done (by kernel_rfl) ?_ _
        refine NoPanic.normal ?_
        clear hHeld c0 f0 hb0
        go_wp2_with fail
        refine wp_region_noPanic ?_
        refine wp_region_held_drew (S := (fun w' => Mine A w w')) (by kernel_rfl) ?_ (fun hHeld => ?_)
        · first | exact ⟨MB.out.le, MB.out.bel.drew⟩ | exact ⟨MB.out.le, MB.out.bel.drew.drew⟩
        refine wpAnyH_take (i := 0) (oi := { dst := some 23, op := Op.fieldAddr 27 (Operand.tmp 4) 1, type := 0, pos := "seal.go:41", after := #[], guard := none }) (v := ?v0_33) rfl (by kernel_rfl) (by kernel_rfl) (by kernel_rfl) (fun _ _ _ h => h) (Or.inl ⟨by rfl, ?y0_33⟩) (by assumption) ?r0_33
        case y0_33 => intro w hSw; (try dsimp only at hSw); go_simp; try with_reducible rfl
        try simp only [Act.put, List.setIfInBounds_toArray, List.set_cons_zero, List.set_cons_succ]
        refine wpAnyH_take (i := 3) (oi := { dst := some 26, op := Op.move (Operand.tmp 0), type := 34, pos := "seal.go:41", after := #[], guard := none }) (v := ?v3_34) rfl (by kernel_rfl) (by kernel_rfl) (by kernel_rfl) (fun _ _ _ h => h) (Or.inl ⟨by rfl, ?y3_34⟩) (by assumption) ?r3_34
        case y3_34 => intro w hSw; (try dsimp only at hSw); go_simp; try with_reducible rfl
        try simp only [Act.put, List.setIfInBounds_toArray, List.set_cons_zero, List.set_cons_succ]
        refine wpAnyH_take (i := 4) (oi := { dst := some 27, op := Op.move (Operand.tmp 5), type := 3, pos := "seal.go:41", after := #[], guard := none }) (v := ?v4_35) rfl (by kernel_rfl) (by kernel_rfl) (by kernel_rfl) (fun _ _ _ h => h) (Or.inl ⟨by rfl, ?y4_35⟩) (by assumption) ?r4_35
        case y4_35 => intro w hSw; (try dsimp only at hSw); go_simp; try with_reducible rfl
        try simp only [Act.put, List.setIfInBounds_toArray, List.set_cons_zero, List.set_cons_succ]
        refine wpAnyH_take (i := 5) (oi := { dst := some 28, op := Op.binOp BinOp.add 3 (Operand.const (Value.int IntKind.i64 4)) (Operand.tmp 27) 3, type := 3, pos := "seal.go:41", after := #[{ on := 4, ground := Ground.data }], guard := none }) (v := ?v5_36) rfl (by kernel_rfl) (by kernel_rfl) (by kernel_rfl) (fun _ _ _ h => h) (Or.inl ⟨by rfl, ?y5_36⟩) (by assumption) ?r5_36
        case y5_36 => intro w hSw; (try dsimp only at hSw); go_simp; try with_reducible rfl
        try simp only [Act.put, List.setIfInBounds_toArray, List.set_cons_zero, List.set_cons_succ]
        refine wpAnyH_take (i := 6) (oi := { dst := some 29, op := Op.indexAddr 34 (Operand.tmp 26) (Operand.tmp 28), type := 0, pos := "seal.go:41", after := #[{ on := 3, ground := Ground.data }, { on := 5, ground := Ground.data }], guard := none }) (v := ?v6_37) rfl (by kernel_rfl) (by kernel_rfl) (by kernel_rfl) (fun _ _ _ h => h) (Or.inl ⟨by rfl, ?y6_37⟩) (by assumption) ?r6_37
        case y6_37 => intro w hSw; (try dsimp only at hSw); go_simp; try with_reducible rfl
        try simp only [Act.put, List.setIfInBounds_toArray, List.set_cons_zero, List.set_cons_succ]
        refine wpAnyH_ready (rs := [1, 7]) (by kernel_rfl) (by simp) (AllReadyH.cons (o := { dst := some 24, op := Op.load 3 (Operand.tmp 23), type := 3, pos := "seal.go:41", after := #[{ on := 0, ground := Ground.data }], guard := none }) rfl (fun K hK => ?_) (AllReadyH.cons (o := { dst := some 30, op := Op.load 5 (Operand.tmp 29), type := 5, pos := "seal.go:41", after := #[{ on := 6, ground := Ground.data }], guard := none }) rfl (fun K hK => ?_) AllReadyH.nil))
        ·
          go_simp
          refine hK.out _ _ ?_ (fun hHeld => ?_)
          · (try dsimp only); first | (go_split_ands; (repeat' apply And.intro) <;> first | assumption | exact Mine.call (by assumption) (by assumption) | exact Mine.alloc (by assumption) _ | exact Mine.setCells (by assumption) _ _ _ (by omega) | exact Mine.callN (by assumption) (by assumption) (by omega) | exact Row.belowN (by assumption) (by assumption) (by omega) | exact there_belowN (by assumption) (by assumption) (by omega) | exact rangeAt_below (by assumption) (by assumption) | exact World.rangeAt_alloc (by assumption) _ | exact World.rangeAt_setCells_apart (by assumption) _ _ _ (Or.inl (by omega)) | exact there_below (by assumption) (by assumption) | exact World.there_alloc (by assumption) _ | exact World.there_setCells (by assumption) _ _ _ | exact Row.belowS (by assumption) (by assumption) | exact Row.alloc (by assumption) _ | exact Row.setCells (by assumption) _ _ (by omega) | exact HS.below (by assumption) (by assumption) | exact SB.below (by assumption) (by assumption) | exact HS.alloc (by assumption) _) | (exact ⟨MM.out.le, MM.out.bel.drew⟩) | (exact ⟨MM.out.le, MM.out.bel⟩) | (exact ⟨MM.out.le, MM.out.bel.drew.drew⟩)
          clear hK K
          try simp only [Act.put, List.setIfInBounds_toArray, List.set_cons_zero, List.set_cons_succ]
          refine wpAnyH_take (i := 2) (oi := { dst := some 25, op := Op.binOp BinOp.shl 3 (Operand.tmp 24) (Operand.const (Value.int IntKind.u64 8)) 53, type := 3, pos := "seal.go:41", after := #[{ on := 1, ground := Ground.data }], guard := none }) (v := ?v2_38) rfl (by kernel_rfl) (by kernel_rfl) (by kernel_rfl) (fun _ _ _ h => h) (Or.inl ⟨by rfl, ?y2_38⟩) (by assumption) ?r2_38
          case y2_38 => intro w hSw; (try dsimp only at hSw); go_simp; try with_reducible rfl
          try simp only [Act.put, List.setIfInBounds_toArray, List.set_cons_zero, List.set_cons_succ]
          refine wpAnyH_ready (rs := [7]) (by kernel_rfl) (by simp) (AllReadyH.cons (o := { dst := some 30, op := Op.load 5 (Operand.tmp 29), type := 5, pos := "seal.go:41", after := #[{ on := 6, ground := Ground.data }], guard := none }) rfl (fun K hK => ?_) AllReadyH.nil)
          go_simp
          refine hK.out _ _ ?_ (fun hHeld => ?_)
          · (try dsimp only); first | (go_split_ands; (repeat' apply And.intro) <;> first | assumption | exact Mine.call (by assumption) (by assumption) | exact Mine.alloc (by assumption) _ | exact Mine.setCells (by assumption) _ _ _ (by omega) | exact Mine.callN (by assumption) (by assumption) (by omega) | exact Row.belowN (by assumption) (by assumption) (by omega) | exact there_belowN (by assumption) (by assumption) (by omega) | exact rangeAt_below (by assumption) (by assumption) | exact World.rangeAt_alloc (by assumption) _ | exact World.rangeAt_setCells_apart (by assumption) _ _ _ (Or.inl (by omega)) | exact there_below (by assumption) (by assumption) | exact World.there_alloc (by assumption) _ | exact World.there_setCells (by assumption) _ _ _ | exact Row.belowS (by assumption) (by assumption) | exact Row.alloc (by assumption) _ | exact Row.setCells (by assumption) _ _ (by omega) | exact HS.below (by assumption) (by assumption) | exact SB.below (by assumption) (by assumption) | exact HS.alloc (by assumption) _) | (exact ⟨MM.out.le, MM.out.bel.drew⟩) | (exact ⟨MM.out.le, MM.out.bel⟩) | (exact ⟨MM.out.le, MM.out.bel.drew.drew⟩)
          clear hK K
          try simp only [Act.put, List.setIfInBounds_toArray, List.set_cons_zero, List.set_cons_succ]
          refine wpAnyH_take (i := 8) (oi := { dst := some 31, op := Op.convert 5 3 (Operand.tmp 30), type := 3, pos := "seal.go:41", after := #[{ on := 7, ground := Ground.data }], guard := none }) (v := ?v8_39) rfl (by kernel_rfl) (by kernel_rfl) (by kernel_rfl) (fun _ _ _ h => h) (Or.inl ⟨by rfl, ?y8_39⟩) (by assumption) ?r8_39
          case y8_39 => intro w hSw; (try dsimp only at hSw); go_simp; try with_reducible rfl
          try simp only [Act.put, List.setIfInBounds_toArray, List.set_cons_zero, List.set_cons_succ]
          refine wpAnyH_take (i := 9) (oi := { dst := some 32, op := Op.binOp BinOp.or 3 (Operand.tmp 25) (Operand.tmp 31) 3, type := 3, pos := "seal.go:41", after := #[{ on := 2, ground := Ground.data }, { on := 8, ground := Ground.data }], guard := none }) (v := ?v9_40) rfl (by kernel_rfl) (by kernel_rfl) (by kernel_rfl) (fun _ _ _ h => h) (Or.inl ⟨by rfl, ?y9_40⟩) (by assumption) ?r9_40
          case y9_40 => intro w hSw; (try dsimp only at hSw); go_simp; try with_reducible rfl
          try simp only [Act.put, List.setIfInBounds_toArray, List.set_cons_zero, List.set_cons_succ]
          refine wpAnyH_take (i := 10) (oi := { dst := some 33, op := Op.fieldAddr 27 (Operand.tmp 4) 1, type := 0, pos := "seal.go:41", after := #[{ on := 0, ground := Ground.phase }, { on := 1, ground := Ground.phase }, { on := 2, ground := Ground.phase }, { on := 3, ground := Ground.phase }, { on := 4, ground := Ground.phase }, { on := 5, ground := Ground.phase }, { on := 6, ground := Ground.phase }, { on := 7, ground := Ground.phase }, { on := 8, ground := Ground.phase }, { on := 9, ground := Ground.phase }], guard := none }) (v := ?v10_41) rfl (by kernel_rfl) (by kernel_rfl) (by kernel_rfl) (fun _ _ _ h => h) (Or.inl ⟨by rfl, ?y10_41⟩) (by assumption) ?r10_41
          case y10_41 => intro w hSw; (try dsimp only at hSw); go_simp; try with_reducible rfl
          try simp only [Act.put, List.setIfInBounds_toArray, List.set_cons_zero, List.set_cons_succ]
          refine wpAnyH_ready (rs := [11]) (by kernel_rfl) (by simp) (AllReadyH.cons (o := { dst := none, op := Op.store 3 (Operand.tmp 33) (Operand.tmp 32), type := 0, pos := "seal.go:41", after := #[{ on := 10, ground := Ground.data }, { on := 9, ground := Ground.data }, { on := 0, ground := Ground.phase }, { on := 1, ground := Ground.phase }, { on := 2, ground := Ground.phase }, { on := 3, ground := Ground.phase }, { on := 4, ground := Ground.phase }, { on := 5, ground := Ground.phase }, { on := 6, ground := Ground.phase }, { on := 7, ground := Ground.phase }, { on := 8, ground := Ground.phase }, { on := 9, ground := Ground.phase }], guard := none }) rfl (fun K hK => ?_) AllReadyH.nil)
          go_simp
          refine hK.out _ _ ?_ (fun hHeld => ?_)
          · (try dsimp only); first | (go_split_ands; (repeat' apply And.intro) <;> first | assumption | exact Mine.call (by assumption) (by assumption) | exact Mine.alloc (by assumption) _ | exact Mine.setCells (by assumption) _ _ _ (by omega) | exact Mine.callN (by assumption) (by assumption) (by omega) | exact Row.belowN (by assumption) (by assumption) (by omega) | exact there_belowN (by assumption) (by assumption) (by omega) | exact rangeAt_below (by assumption) (by assumption) | exact World.rangeAt_alloc (by assumption) _ | exact World.rangeAt_setCells_apart (by assumption) _ _ _ (Or.inl (by omega)) | exact there_below (by assumption) (by assumption) | exact World.there_alloc (by assumption) _ | exact World.there_setCells (by assumption) _ _ _ | exact Row.belowS (by assumption) (by assumption) | exact Row.alloc (by assumption) _ | exact Row.setCells (by assumption) _ _ (by omega) | exact HS.below (by assumption) (by assumption) | exact SB.below (by assumption) (by assumption) | exact HS.alloc (by assumption) _) | (exact ⟨MM.out.le, MM.out.bel.drew⟩) | (exact ⟨MM.out.le, MM.out.bel⟩) | (exact ⟨MM.out.le, MM.out.bel.drew.drew⟩)
          clear hK K
          try simp only [Act.put, List.setIfInBounds_toArray, List.set_cons_zero, List.set_cons_succ]
          refine wpAnyH_done (by kernel_rfl) ?_ _
          refine NoPanic.normal ?_
          clear hHeld
          go_wp2
          go_roundw
          case rel => exact ⟨i + 1, ⟨by go_num, by omega⟩, RA.out, RB.out, ⟨MM.out.le, MM.out.bel.drew.drew⟩⟩
          case measure => simp [intOf]; omega
        ·
          go_simp
          refine hK.out _ _ ?_ (fun hHeld => ?_)
          · (try dsimp only); first | (go_split_ands; (repeat' apply And.intro) <;> first | assumption | exact Mine.call (by assumption) (by assumption) | exact Mine.alloc (by assumption) _ | exact Mine.setCells (by assumption) _ _ _ (by omega) | exact Mine.callN (by assumption) (by assumption) (by omega) | exact Row.belowN (by assumption) (by assumption) (by omega) | exact there_belowN (by assumption) (by assumption) (by omega) | exact rangeAt_below (by assumption) (by assumption) | exact World.rangeAt_alloc (by assumption) _ | exact World.rangeAt_setCells_apart (by assumption) _ _ _ (Or.inl (by omega)) | exact there_below (by assumption) (by assumption) | exact World.there_alloc (by assumption) _ | exact World.there_setCells (by assumption) _ _ _ | exact Row.belowS (by assumption) (by assumption) | exact Row.alloc (by assumption) _ | exact Row.setCells (by assumption) _ _ (by omega) | exact HS.below (by assumption) (by assumption) | exact SB.below (by assumption) (by assumption) | exact HS.alloc (by assumption) _) | (exact ⟨MM.out.le, MM.out.bel.drew⟩) | (exact ⟨MM.out.le, MM.out.bel⟩) | (exact ⟨MM.out.le, MM.out.bel.drew.drew⟩)
          clear hK K
          try simp only [Act.put, List.setIfInBounds_toArray, List.set_cons_zero, List.set_cons_succ]
          refine wpAnyH_take (i := 8) (oi := { dst := some 31, op := Op.convert 5 3 (Operand.tmp 30), type := 3, pos := "seal.go:41", after := #[{ on := 7, ground := Ground.data }], guard := none }) (v := ?v8_42) rfl (by kernel_rfl) (by kernel_rfl) (by kernel_rfl) (fun _ _ _ h => h) (Or.inl ⟨by rfl, ?y8_42⟩) (by assumption) ?r8_42
          case y8_42 => intro w hSw; (try dsimp only at hSw); go_simp; try with_reducible rfl
          try simp only [Act.put, List.setIfInBounds_toArray, List.set_cons_zero, List.set_cons_succ]
          refine wpAnyH_ready (rs := [1]) (by kernel_rfl) (by simp) (AllReadyH.cons (o := { dst := some 24, op := Op.load 3 (Operand.tmp 23), type := 3, pos := "seal.go:41", after := #[{ on := 0, ground := Ground.data }], guard := none }) rfl (fun K hK => ?_) AllReadyH.nil)
          go_simp
          refine hK.out _ _ ?_ (fun hHeld => ?_)
          · (try dsimp only); first | (go_split_ands; (repeat' apply And.intro) <;> first | assumption | exact Mine.call (by assumption) (by assumption) | exact Mine.alloc (by assumption) _ | exact Mine.setCells (by assumption) _ _ _ (by omega) | exact Mine.callN (by assumption) (by assumption) (by omega) | exact Row.belowN (by assumption) (by assumption) (by omega) | exact there_belowN (by assumption) (by assumption) (by omega) | exact rangeAt_below (by assumption) (by assumption) | exact World.rangeAt_alloc (by assumption) _ | exact World.rangeAt_setCells_apart (by assumption) _ _ _ (Or.inl (by omega)) | exact there_below (by assumption) (by assumption) | exact World.there_alloc (by assumption) _ | exact World.there_setCells (by assumption) _ _ _ | exact Row.belowS (by assumption) (by assumption) | exact Row.alloc (by assumption) _ | exact Row.setCells (by assumption) _ _ (by omega) | exact HS.below (by assumption) (by assumption) | exact SB.below (by assumption) (by assumption) | exact HS.alloc (by assumption) _) | (exact ⟨MM.out.le, MM.out.bel.drew⟩) | (exact ⟨MM.out.le, MM.out.bel⟩) | (exact ⟨MM.out.le, MM.out.bel.drew.drew⟩)
          clear hK K
          try simp only [Act.put, List.setIfInBounds_toArray, List.set_cons_zero, List.set_cons_succ]
          refine wpAnyH_take (i := 2) (oi := { dst := some 25, op := Op.binOp BinOp.shl 3 (Operand.tmp 24) (Operand.const (Value.int IntKind.u64 8)) 53, type := 3, pos := "seal.go:41", after := #[{ on := 1, ground := Ground.data }], guard := none }) (v := ?v2_43) rfl (by kernel_rfl) (by kernel_rfl) (by kernel_rfl) (fun _ _ _ h => h) (Or.inl ⟨by rfl, ?y2_43⟩) (by assumption) ?r2_43
          case y2_43 => intro w hSw; (try dsimp only at hSw); go_simp; try with_reducible rfl
          try simp only [Act.put, List.setIfInBounds_toArray, List.set_cons_zero, List.set_cons_succ]
          refine wpAnyH_take (i := 9) (oi := { dst := some 32, op := Op.binOp BinOp.or 3 (Operand.tmp 25) (Operand.tmp 31) 3, type := 3, pos := "seal.go:41", after := #[{ on := 2, ground := Ground.data }, { on := 8, ground := Ground.data }], guard := none }) (v := ?v9_44) rfl (by kernel_rfl) (by kernel_rfl) (by kernel_rfl) (fun _ _ _ h => h) (Or.inl ⟨by rfl, ?y9_44⟩) (by assumption) ?r9_44
          case y9_44 => intro w hSw; (try dsimp only at hSw); go_simp; try with_reducible rfl
          try simp only [Act.put, List.setIfInBounds_toArray, List.set_cons_zero, List.set_cons_succ]
          refine wpAnyH_take (i := 10) (oi := { dst := some 33, op := Op.fieldAddr 27 (Operand.tmp 4) 1, type := 0, pos := "seal.go:41", after := #[{ on := 0, ground := Ground.phase }, { on := 1, ground := Ground.phase }, { on := 2, ground := Ground.phase }, { on := 3, ground := Ground.phase }, { on := 4, ground := Ground.phase }, { on := 5, ground := Ground.phase }, { on := 6, ground := Ground.phase }, { on := 7, ground := Ground.phase }, { on := 8, ground := Ground.phase }, { on := 9, ground := Ground.phase }], guard := none }) (v := ?v10_45) rfl (by kernel_rfl) (by kernel_rfl) (by kernel_rfl) (fun _ _ _ h => h) (Or.inl ⟨by rfl, ?y10_45⟩) (by assumption) ?r10_45
          case y10_45 => intro w hSw; (try dsimp only at hSw); go_simp; try with_reducible rfl
          try simp only [Act.put, List.setIfInBounds_toArray, List.set_cons_zero, List.set_cons_succ]
          refine wpAnyH_ready (rs := [11]) (by kernel_rfl) (by simp) (AllReadyH.cons (o := { dst := none, op := Op.store 3 (Operand.tmp 33) (Operand.tmp 32), type := 0, pos := "seal.go:41", after := #[{ on := 10, ground := Ground.data }, { on := 9, ground := Ground.data }, { on := 0, ground := Ground.phase }, { on := 1, ground := Ground.phase }, { on := 2, ground := Ground.phase }, { on := 3, ground := Ground.phase }, { on := 4, ground := Ground.phase }, { on := 5, ground := Ground.phase }, { on := 6, ground := Ground.phase }, { on := 7, ground := Ground.phase }, { on := 8, ground := Ground.phase }, { on := 9, ground := Ground.phase }], guard := none }) rfl (fun K hK => ?_) AllReadyH.nil)
          go_simp
          refine hK.out _ _ ?_ (fun hHeld => ?_)
          · (try dsimp only); first | (go_split_ands; (repeat' apply And.intro) <;> first | assumption | exact Mine.call (by assumption) (by assumption) | exact Mine.alloc (by assumption) _ | exact Mine.setCells (by assumption) _ _ _ (by omega) | exact Mine.callN (by assumption) (by assumption) (by omega) | exact Row.belowN (by assumption) (by assumption) (by omega) | exact there_belowN (by assumption) (by assumption) (by omega) | exact rangeAt_below (by assumption) (by assumption) | exact World.rangeAt_alloc (by assumption) _ | exact World.rangeAt_setCells_apart (by assumption) _ _ _ (Or.inl (by omega)) | exact there_below (by assumption) (by assumption) | exact World.there_alloc (by assumption) _ | exact World.there_setCells (by assumption) _ _ _ | exact Row.belowS (by assumption) (by assumption) | exact Row.alloc (by assumption) _ | exact Row.setCells (by assumption) _ _ (by omega) | exact HS.below (by assumption) (by assumption) | exact SB.below (by assumption) (by assumption) | exact HS.alloc (by assumption) _) | (exact ⟨MM.out.le, MM.out.bel.drew⟩) | (exact ⟨MM.out.le, MM.out.bel⟩) | (exact ⟨MM.out.le, MM.out.bel.drew.drew⟩)
          clear hK K
          try simp only [Act.put, List.setIfInBounds_toArray, List.set_cons_zero, List.set_cons_succ]
          refine wpAnyH_done (by kernel_rfl) ?_ _
          refine NoPanic.normal ?_
          clear hHeld
          go_wp2
          go_roundw
          case rel => exact ⟨i + 1, ⟨by go_num, by omega⟩, RA.out, RB.out, ⟨MM.out.le, MM.out.bel.drew.drew⟩⟩
          case measure => simp [intOf]; omega
    · obtain rfl : i = 4 := by omega
      have hru : wr.rangeAt g (o + 8) (enc8 ((l.drop 8).take 32)) := by
        intro j v hj
        have hj32 : j < 32 := by have := (List.getElem?_eq_some_iff.1 hj).1; rw [enc8_len] at this; simp at this; omega
        rw [enc8_get _ j (by simp [H72.out]; omega)] at hj
        cases hj
        refine (mm.bel.cell (p := ⟨g, o + 8 + j, none⟩) hgA).trans ?_
        rw [Nat.add_assoc, HC.out (8 + j) (by omega), gb_take _ _ _ hj32, gb_drop]
      have hpu : wr.rangeAt g (o + 40) (enc8 (l.drop 40)) := by
        intro j v hj
        have hj32 : j < 32 := by have := (List.getElem?_eq_some_iff.1 hj).1; rw [enc8_len] at this; simp [H72.out] at this; omega
        rw [enc8_get _ j (by simp [H72.out]; omega)] at hj
        cases hj
        refine (mm.bel.cell (p := ⟨g, o + 40 + j, none⟩) hgA).trans ?_
        rw [Nat.add_assoc, HC.out (40 + j) (by omega), gb_drop]
      have hr32 : ((l.drop 8).take 32).length = 32 := by simp [H72.out]
      have hp32 : (l.drop 40).length = 32 := by simp [H72.out]
      have hpar : parC l = if parOk l = true then sealC (numL l 0) (numL l 4) ((l.drop 8).take 32) (l.drop 40) else ZS := rfl
      have hok : parOk l = decide (1 ≤ numL l 0 ∧ numL l 0 ≤ 999999) := by unfold parOk; simp [H72.out]
      have hsl := sealC_len (numL l 0 : Int) (numL l 4 : Int) _ _ hr32 hp32
      have hso := all_oneCell_toArray (sealC_one (numL l 0 : Int) (numL l 4 : Int) ((l.drop 8).take 32) (l.drop 40))
      have hsi := info66 _ hsl
      have hir := info32 _ hr32
      have hip := info32 _ hp32
      have hor := enc8_one ((l.drop 8).take 32)
      have hop := enc8_one (l.drop 40)
      have hlr : (enc8 ((l.drop 8).take 32)).length = 32 := by rw [enc8_len, hr32]
      have hlp : (enc8 (l.drop 40)).length = 32 := by rw [enc8_len, hp32]
      have ra : Row wr.drew A 27 ZS := ra
      have rb : Row wr.drew (A + 1) 27 (sealC (nP l 0 4) (nP l 4 4) (List.replicate 32 0) (List.replicate 32 0)) := rb
      have rb1 := Row.setCells_same (enc8 ((l.drop 8).take 32)) 2 _ _ (rb) (by rw [hlr]; show _ ≤ (sealC _ _ _ _).length; rw [sealC_len _ _ _ _ (by simp) (by simp)]; omega)
      have rb2 := Row.setCells_same (enc8 (l.drop 40)) 34 _ _ rb1 (by
        rw [hlp, List.length_append, List.length_append, List.length_take, List.length_drop, hlr, sealC_len _ _ _ _ (by simp) (by simp)]
        omega)
      have hfill := seal_fill (.int .i64 (numL l 0 : Int)) (.int .i64 (numL l 4 : Int)) (enc8 (List.replicate 32 0)) (enc8 (List.replicate 32 0)) _ _ (by rw [enc8_len]; simp) (by rw [enc8_len]; simp) hlr hlp
      have rb3 : Row ((wr.drew.setCells (A + 1) 2 (enc8 ((l.drop 8).take 32))).setCells (A + 1) 34 (enc8 (l.drop 40))) (A + 1) 27 (sealC (numL l 0) (numL l 4) ((l.drop 8).take 32) (l.drop 40)) := by
        have e := rb2
        rw [show sealC (nP l 0 4 : Int) (nP l 4 4 : Int) (List.replicate 32 0) (List.replicate 32 0) = (.int .i64 (numL l 0 : Int)) :: (.int .i64 (numL l 4 : Int)) :: (enc8 (List.replicate 32 0) ++ enc8 (List.replicate 32 0)) from rfl] at e
        rw [hfill] at e
        exact e
      have ra3 : Row ((wr.drew.setCells (A + 1) 2 (enc8 ((l.drop 8).take 32))).setCells (A + 1) 34 (enc8 (l.drop 40))) A 27 ZS := (ra.setCells _ _ (by omega)).setCells _ _ (by omega)
      have c0' : ((wr.drew.setCells (A + 1) 2 (enc8 ((l.drop 8).take 32))).setCells (A + 1) 34 (enc8 (l.drop 40))).cell? ⟨A + 1, 0, none⟩ = some (.int .i64 (numL l 0 : Int)) := by rw [rb3.cell 0]; rfl
      have hth1 : wr.drew.there (A + 1) 2 32 := fun j hj => ⟨by rw [rb.cell (2 + j)]; rw [List.getElem?_eq_getElem (by rw [sealC_len _ _ _ _ (by simp) (by simp)]; omega)]; rfl, rb.frozen _⟩
      have hth2 : wr.drew.there (A + 1) 34 32 := fun j hj => ⟨by rw [rb.cell (34 + j)]; rw [List.getElem?_eq_getElem (by rw [sealC_len _ _ _ _ (by simp) (by simp)]; omega)]; rfl, rb.frozen _⟩
      have ka := fun w => slice_run2 (some ⟨g, o, none⟩) 72 c 8 40 (by omega) (by omega) 8 40 rfl rfl 32 (c - 8) rfl rfl w
      have kb := fun w => slice_run1 (some ⟨g, o, none⟩) 72 c 40 (by omega) 40 rfl 32 (c - 40) rfl rfl w
      have e8 : cutA (some ⟨g, o, none⟩) c 8 = some ⟨g, o + 8, none⟩ := by unfold cutA; rw [if_neg (by omega)]; simp [Addr.add_mid]
      have e40 : cutA (some ⟨g, o, none⟩) c 40 = some ⟨g, o + 40, none⟩ := by unfold cutA; rw [if_neg (by omega)]; simp [Addr.add_mid]
      rw [e8] at ka
      rw [e40] at kb
      obtain ⟨ar, har⟩ : ∃ a, enc8 ((l.drop 8).take 32) = a := ⟨_, rfl⟩
      obtain ⟨ap, hap⟩ : ∃ a, enc8 (l.drop 40) = a := ⟨_, rfl⟩
      obtain ⟨sc, hsc⟩ : ∃ a, sealC (numL l 0 : Int) (numL l 4 : Int) ((l.drop 8).take 32) (l.drop 40) = a := ⟨_, rfl⟩
      obtain ⟨s0, hs0⟩ : ∃ s0, numL l 0 = s0 := ⟨_, rfl⟩
      rw [hsc] at hpar hsl hso hsi
      simp only [har, hap, hsc] at hru hpu hir hip hor hop hlr hlp rb3 ra3 c0'
      rw [hs0] at c0' hok
      have RB := Lib.hid rb3
      have RA := Lib.hid ra3
      have C0 := Lib.hid c0'
      have T1 := Lib.hid hth1
      have T2 := Lib.hid hth2
      have RU := Lib.hid hru
      have PU := Lib.hid hpu
      have MM := Lib.hid mm
      have HPAR := Lib.hid hpar
      have HOK := Lib.hid hok
      have HSL := Lib.hid hsl
      have HSO := Lib.hid hso
      have HSI := Lib.hid hsi
      have hun := Try.underlying23
      have kc := fun w => run_arrayAt ⟨g, o + 8, none⟩ (c - 8) w
      have kd := fun w => run_arrayAt ⟨g, o + 40, none⟩ (c - 40) w
      clear rb3 ra3 c0' hth1 hth2 hru hpu mm hpar hok hsl hso hsi rb1 rb2 hfill e8 e40 har hap hsc hs0 ra rb hr32 hp32 HC HV
      go_wp2_with fail
      refine wp_region_noPanic ?_
      refine wp_region_held_drew (S := (fun w' => Mine A w w' ∧ w'.rangeAt g (o + 8) ar ∧ w'.rangeAt g (o + 40) ap ∧ w'.there (A + 1) 2 32 ∧ w'.there (A + 1) 34 32)) (by kernel_rfl) ?_ (fun hHeld => ?_)
      · exact ⟨⟨MM.out.le, MM.out.bel.drew⟩, (World.rangeAt_drew _ _ _ _).2 RU.out, (World.rangeAt_drew _ _ _ _).2 PU.out, T1.out, T2.out⟩
      refine wpAnyH_take (i := 0) (oi := { dst := some 35, op := Op.move (Operand.tmp 0), type := 34, pos := "seal.go:43", after := #[], guard := none }) (v := ?v0_12) rfl (by kernel_rfl) (by kernel_rfl) (by kernel_rfl) (fun _ _ _ h => h) (Or.inl ⟨by rfl, ?y0_12⟩) (by assumption) ?r0_12
      case y0_12 => intro w hSw; (try dsimp only at hSw); go_simp; try with_reducible rfl
      try simp only [Act.put, List.setIfInBounds_toArray, List.set_cons_zero, List.set_cons_succ]
      refine wpAnyH_take (i := 1) (oi := { dst := some 36, op := Op.slice 34 (Operand.tmp 35) (some (Operand.const (Value.int IntKind.i64 8))) (some (Operand.const (Value.int IntKind.i64 40))) none, type := 34, pos := "seal.go:43", after := #[{ on := 0, ground := Ground.data }], guard := none }) (v := ?v1_13) rfl (by kernel_rfl) (by kernel_rfl) (by kernel_rfl) (fun _ _ _ h => h) (Or.inl ⟨by rfl, ?y1_13⟩) (by assumption) ?r1_13
      case y1_13 => intro w hSw; (try dsimp only at hSw); go_simp; try with_reducible rfl
      try simp only [Act.put, List.setIfInBounds_toArray, List.set_cons_zero, List.set_cons_succ]
      refine wpAnyH_take (i := 2) (oi := { dst := some 37, op := Op.sliceToArrayPointer 23 (Operand.tmp 36), type := 0, pos := "seal.go:43", after := #[{ on := 1, ground := Ground.data }], guard := none }) (v := ?v2_14) rfl (by kernel_rfl) (by kernel_rfl) (by kernel_rfl) (fun _ _ _ h => h) (Or.inl ⟨by rfl, ?y2_14⟩) (by assumption) ?r2_14
      case y2_14 => intro w hSw; (try dsimp only at hSw); go_simp; try with_reducible rfl
      try simp only [Act.put, List.setIfInBounds_toArray, List.set_cons_zero, List.set_cons_succ]
      refine wpAnyH_take (i := 3) (oi := { dst := some 38, op := Op.load 23 (Operand.tmp 37), type := 23, pos := "seal.go:43", after := #[{ on := 2, ground := Ground.data }], guard := none }) (v := _) rfl (by kernel_rfl) (by kernel_rfl) (by kernel_rfl) (fun _ _ _ h => h) (yieldsIf_load_mid (by rfl) _ _ rfl _ _ rfl _ _ (by intro w hSw; (try dsimp only at hSw); go_split_ands; assumption) (by assumption) rfl (by first | assumption | (simp only [*]; done))) (by assumption) ?_
      try simp only [Act.put, List.setIfInBounds_toArray, List.set_cons_zero, List.set_cons_succ]
      refine wpAnyH_take (i := 4) (oi := { dst := some 39, op := Op.move (Operand.tmp 0), type := 34, pos := "seal.go:43", after := #[], guard := none }) (v := ?v4_15) rfl (by kernel_rfl) (by kernel_rfl) (by kernel_rfl) (fun _ _ _ h => h) (Or.inl ⟨by rfl, ?y4_15⟩) (by assumption) ?r4_15
      case y4_15 => intro w hSw; (try dsimp only at hSw); go_simp; try with_reducible rfl
      try simp only [Act.put, List.setIfInBounds_toArray, List.set_cons_zero, List.set_cons_succ]
      refine wpAnyH_take (i := 5) (oi := { dst := some 40, op := Op.slice 34 (Operand.tmp 39) (some (Operand.const (Value.int IntKind.i64 40))) none none, type := 34, pos := "seal.go:43", after := #[{ on := 4, ground := Ground.data }], guard := none }) (v := ?v5_16) rfl (by kernel_rfl) (by kernel_rfl) (by kernel_rfl) (fun _ _ _ h => h) (Or.inl ⟨by rfl, ?y5_16⟩) (by assumption) ?r5_16
      case y5_16 => intro w hSw; (try dsimp only at hSw); go_simp; try with_reducible rfl
      try simp only [Act.put, List.setIfInBounds_toArray, List.set_cons_zero, List.set_cons_succ]
      refine wpAnyH_take (i := 6) (oi := { dst := some 41, op := Op.sliceToArrayPointer 23 (Operand.tmp 40), type := 0, pos := "seal.go:43", after := #[{ on := 5, ground := Ground.data }, { on := 9, ground := Ground.gcOnly Departure.lateStores }], guard := none }) (v := ?v6_17) rfl (by kernel_rfl) (by kernel_rfl) (by kernel_rfl) (fun _ _ _ h => h) (Or.inl ⟨by rfl, ?y6_17⟩) (by assumption) ?r6_17
      case y6_17 => intro w hSw; (try dsimp only at hSw); go_simp; try with_reducible rfl
      try simp only [Act.put, List.setIfInBounds_toArray, List.set_cons_zero, List.set_cons_succ]
      refine wpAnyH_take (i := 7) (oi := { dst := some 42, op := Op.load 23 (Operand.tmp 41), type := 23, pos := "seal.go:43", after := #[{ on := 6, ground := Ground.data }, { on := 9, ground := Ground.gcOnly Departure.lateStores }], guard := none }) (v := _) rfl (by kernel_rfl) (by kernel_rfl) (by kernel_rfl) (fun _ _ _ h => h) (yieldsIf_load_mid (by rfl) _ _ rfl _ _ rfl _ _ (by intro w hSw; (try dsimp only at hSw); go_split_ands; assumption) (by assumption) rfl (by first | assumption | (simp only [*]; done))) (by assumption) ?_
      try simp only [Act.put, List.setIfInBounds_toArray, List.set_cons_zero, List.set_cons_succ]
      refine wpAnyH_take (i := 8) (oi := { dst := some 43, op := Op.fieldAddr 27 (Operand.tmp 4) 2, type := 0, pos := "seal.go:43", after := #[{ on := 0, ground := Ground.phase }, { on := 1, ground := Ground.phase }, { on := 2, ground := Ground.phase }, { on := 3, ground := Ground.phase }, { on := 4, ground := Ground.textOnly Departure.lateStores }, { on := 5, ground := Ground.textOnly Departure.lateStoresUnsure }, { on := 6, ground := Ground.textOnly Departure.lateStores }, { on := 7, ground := Ground.textOnly Departure.lateStores }], guard := none }) (v := ?v8_18) rfl (by kernel_rfl) (by kernel_rfl) (by kernel_rfl) (fun _ _ _ h => h) (Or.inl ⟨by rfl, ?y8_18⟩) (by assumption) ?r8_18
      case y8_18 => intro w hSw; (try dsimp only at hSw); go_simp; try with_reducible rfl
      try simp only [Act.put, List.setIfInBounds_toArray, List.set_cons_zero, List.set_cons_succ]
      have hPre := hHeld
      refine wpAnyH_ready (rs := [9]) (by kernel_rfl) (by simp) (AllReadyH.cons (o := { dst := none, op := Op.store 23 (Operand.tmp 43) (Operand.tmp 38), type := 0, pos := "seal.go:43", after := #[{ on := 8, ground := Ground.data }, { on := 3, ground := Ground.data }, { on := 0, ground := Ground.phase }, { on := 1, ground := Ground.phase }, { on := 2, ground := Ground.phase }, { on := 3, ground := Ground.phase }, { on := 4, ground := Ground.textOnly Departure.lateStores }, { on := 5, ground := Ground.textOnly Departure.lateStoresUnsure }, { on := 6, ground := Ground.textOnly Departure.lateStores }, { on := 7, ground := Ground.textOnly Departure.lateStores }], guard := none }) rfl (fun K hK => ?_) AllReadyH.nil)
      rw [if_pos (by rfl)]
      refine wp_store_mid _ _ _ rfl _ _ (List.toArray _) rfl rfl (by go_split_ands; first | assumption | (simp only [List.size_toArray, *] <;> assumption)) (by first | assumption | (simp only [List.size_toArray] <;> assumption) | (simp only [List.size_toArray, *]; done)) (all_oneCell_toArray (by assumption)) ?_
      simp only [Act.put, List.setIfInBounds_toArray, List.set_cons_zero, List.set_cons_succ, List.toList_toArray]
      refine hK.out _ _ ?_ (fun hHeld => ?_)
      · (try dsimp only); (go_split_ands; (repeat' apply And.intro) <;> first | assumption | exact Mine.call (by assumption) (by assumption) | exact Mine.alloc (by assumption) _ | exact Mine.setCells (by assumption) _ _ _ (by omega) | exact Mine.callN (by assumption) (by assumption) (by omega) | exact Row.belowN (by assumption) (by assumption) (by omega) | exact there_belowN (by assumption) (by assumption) (by omega) | exact rangeAt_below (by assumption) (by assumption) | exact World.rangeAt_alloc (by assumption) _ | exact World.rangeAt_setCells_apart (by assumption) _ _ _ (Or.inl (by omega)) | exact there_below (by assumption) (by assumption) | exact World.there_alloc (by assumption) _ | exact World.there_setCells (by assumption) _ _ _ | exact Row.belowS (by assumption) (by assumption) | exact Row.alloc (by assumption) _ | exact Row.setCells (by assumption) _ _ (by omega) | exact HS.below (by assumption) (by assumption) | exact SB.below (by assumption) (by assumption) | exact HS.alloc (by assumption) _)
      clear hK K
      refine wpAnyH_take (i := 10) (oi := { dst := some 44, op := Op.fieldAddr 27 (Operand.tmp 4) 3, type := 0, pos := "seal.go:43", after := #[{ on := 0, ground := Ground.phase }, { on := 1, ground := Ground.phase }, { on := 2, ground := Ground.phase }, { on := 3, ground := Ground.phase }, { on := 4, ground := Ground.phase }, { on := 5, ground := Ground.phase }, { on := 6, ground := Ground.phase }, { on := 7, ground := Ground.phase }, { on := 8, ground := Ground.phase }, { on := 9, ground := Ground.phase }], guard := none }) (v := ?v10_19) rfl (by kernel_rfl) (by kernel_rfl) (by kernel_rfl) (fun _ _ _ h => h) (Or.inl ⟨by rfl, ?y10_19⟩) (by assumption) ?r10_19
      case y10_19 => intro w hSw; (try dsimp only at hSw); go_simp; try with_reducible rfl
      try simp only [Act.put, List.setIfInBounds_toArray, List.set_cons_zero, List.set_cons_succ]
      have hPre := hHeld
      refine wpAnyH_ready (rs := [11]) (by kernel_rfl) (by simp) (AllReadyH.cons (o := { dst := none, op := Op.store 23 (Operand.tmp 44) (Operand.tmp 42), type := 0, pos := "seal.go:43", after := #[{ on := 10, ground := Ground.data }, { on := 7, ground := Ground.data }, { on := 9, ground := Ground.chain }, { on := 0, ground := Ground.phase }, { on := 1, ground := Ground.phase }, { on := 2, ground := Ground.phase }, { on := 3, ground := Ground.phase }, { on := 4, ground := Ground.phase }, { on := 5, ground := Ground.phase }, { on := 6, ground := Ground.phase }, { on := 7, ground := Ground.phase }, { on := 8, ground := Ground.phase }, { on := 9, ground := Ground.phase }], guard := none }) rfl (fun K hK => ?_) AllReadyH.nil)
      rw [if_pos (by rfl)]
      refine wp_store_mid _ _ _ rfl _ _ (List.toArray _) rfl rfl (by go_split_ands; first | assumption | (simp only [List.size_toArray, *] <;> assumption)) (by first | assumption | (simp only [List.size_toArray] <;> assumption) | (simp only [List.size_toArray, *]; done)) (all_oneCell_toArray (by assumption)) ?_
      simp only [Act.put, List.setIfInBounds_toArray, List.set_cons_zero, List.set_cons_succ, List.toList_toArray]
      refine hK.out _ _ ?_ (fun hHeld => ?_)
      · (try dsimp only); (go_split_ands; (repeat' apply And.intro) <;> first | assumption | exact Mine.call (by assumption) (by assumption) | exact Mine.alloc (by assumption) _ | exact Mine.setCells (by assumption) _ _ _ (by omega) | exact Mine.callN (by assumption) (by assumption) (by omega) | exact Row.belowN (by assumption) (by assumption) (by omega) | exact there_belowN (by assumption) (by assumption) (by omega) | exact rangeAt_below (by assumption) (by assumption) | exact World.rangeAt_alloc (by assumption) _ | exact World.rangeAt_setCells_apart (by assumption) _ _ _ (Or.inl (by omega)) | exact there_below (by assumption) (by assumption) | exact World.there_alloc (by assumption) _ | exact World.there_setCells (by assumption) _ _ _ | exact Row.belowS (by assumption) (by assumption) | exact Row.alloc (by assumption) _ | exact Row.setCells (by assumption) _ _ (by omega) | exact HS.below (by assumption) (by assumption) | exact SB.below (by assumption) (by assumption) | exact HS.alloc (by assumption) _)
      clear hK K
      refine wpAnyH_done (by kernel_rfl) ?_ _
      refine NoPanic.normal ?_
      have MF := Lib.hid hHeld.1
      obtain ⟨W, hW⟩ : ∃ W, (wr.drew.setCells (A + 1) 2 ar).setCells (A + 1) 34 ap = W := ⟨_, rfl⟩
      have HW := Lib.hid hW
      have ra' := RA.out
      have rb' := RB.out
      have c0 := C0.out
      have mf' := MF.out
      rw [hW] at ra' rb' c0 mf'
      have RA := Lib.hid ra'
      have RB := Lib.hid rb'
      have MF := Lib.hid mf'
      rw [show (wr.drew.setCells (A + 1) 2 ar).setCells (A + 1) 34 ap = W from HW.out]
      have hpe : parE l = if parOk l = true then 0 else 60 := rfl
      have hpar := HPAR.out
      have RZ := Lib.hid (ra'.setRow ZS)
      have RP := Lib.hid (ra'.setRow sc)
      have BP := Lib.hid (below_setRow mf'.bel (Nat.le_refl A) sc.toArray)
      have BZ := Lib.hid (below_setRow mf'.bel (Nat.le_refl A) ZS.toArray)
      clear hW hHeld hPre ra' rb' mf' hi hir hip hor hop hlr hlp ka kb kc kd T1 T2 RU PU MM hun
      by_cases hlow : s0 < 1
      · have hok' : parOk l = false := by rw [HOK.out]; simp; omega
        rw [hok', if_neg (by decide)] at hpar hpe
        have HP := Lib.hid hpar
        have HE := Lib.hid hpe
        have d1 : decide (s0 < 1) = true := by simpa using hlow
        have d2 : decide ((s0 : Int) < 1) = true := by simp; omega
        clear hpar hpe hok'
        go_wp2_with (first | (refine RA.out.store (m := ZS) rfl 27 (.tmp 2) (.tmp 53) rfl rfl rfl (by kernel_rfl) rfl (by kernel_rfl) ?_))
        refine bodyPost_ret (v := .tuple #[.agg ZS.toArray, .int .i64 60]) (rangeS_result2 RZ.out.range Try.results24 _ _ rfl rfl Try.underlying27 rfl (by kernel_rfl)) rfl ?_
        exact ⟨by rw [HP.out, HE.out], by rw [hA]; exact BZ.out⟩
      · have d1 : decide (s0 < 1) = false := by simpa using hlow
        have d2 : decide ((s0 : Int) < 1) = false := by simp; omega
        by_cases hhigh : 999999 < s0
        · have hok' : parOk l = false := by rw [HOK.out]; simp; omega
          rw [hok', if_neg (by decide)] at hpar hpe
          have HP := Lib.hid hpar
          have HE := Lib.hid hpe
          have d3 : decide (999999 < s0) = true := by simpa using hhigh
          have d4 : decide ((999999 : Int) < (s0 : Int)) = true := by simp; omega
          clear hpar hpe hok'
          go_wp2_with (first | (refine RA.out.store (m := ZS) rfl 27 (.tmp 2) (.tmp 53) rfl rfl rfl (by kernel_rfl) rfl (by kernel_rfl) ?_))
          refine bodyPost_ret (v := .tuple #[.agg ZS.toArray, .int .i64 60]) (rangeS_result2 RZ.out.range Try.results24 _ _ rfl rfl Try.underlying27 rfl (by kernel_rfl)) rfl ?_
          exact ⟨by rw [HP.out, HE.out], by rw [hA]; exact BZ.out⟩
        · have hok' : parOk l = true := by rw [HOK.out]; simp; omega
          rw [hok', if_pos rfl] at hpar hpe
          have HP := Lib.hid hpar
          have HE := Lib.hid hpe
          have d3 : decide (999999 < s0) = false := by simpa using hhigh
          have d4 : decide ((999999 : Int) < (s0 : Int)) = false := by simp; omega
          clear hpar hpe hok'
          go_wp2_with (first
            | (refine RB.out.sload rfl (.tmp 4) rfl rfl HSI.out ?_)
            | (refine RA.out.store (m := sc) rfl 27 (.tmp 2) (.tmp 54) rfl rfl rfl HSI.out (by rw [HSL.out]; decide) HSO.out ?_))
          refine bodyPost_ret (v := .tuple #[.agg sc.toArray, .int .i64 0]) (rangeS_result2 RP.out.range Try.results24 _ _ rfl rfl Try.underlying27 rfl HSI.out) rfl ?_
          exact ⟨by rw [HP.out, HE.out], by rw [hA]; exact BP.out⟩

set_option maxHeartbeats 1000000 in
set_option maxRecDepth 100000 in
theorem parse_out (v : Value) (l : List UInt8) (w : World) (hv : SB w v l) (h72 : l.length ≠ 72) :
    Calls Try.prog 24 #[v] w fun e w' => e = .returned (.tuple #[.agg (parC l).toArray, .int .i64 (parE l)]) ∧ Below w.heap.size w w' := by
  have hok : parOk l = false := by unfold parOk; simp [h72]
  have hpar : parC l = ZS := by unfold parC; rw [hok, if_neg (by decide)]
  have hpe : parE l = 60 := by unfold parE; rw [hok, if_neg (by decide)]
  rw [hpar, hpe]
  obtain ⟨A0, c, rfl, -, -, -⟩ := hv.form
  obtain ⟨n, hn⟩ : ∃ n, l.length = n := ⟨_, rfl⟩
  rw [hn] at h72 ⊢
  have d1 : ((n : Int) == 72) = false := by simp; omega
  have d2 : ¬ (n : Int) = 72 := by omega
  obtain ⟨A, hA⟩ : ∃ A, w.heap.size = A := ⟨_, rfl⟩
  have r0 : Row (w.alloc (.cells #[.int .i64 0, .int .i64 0, .int .u8 0, .int .u8 0, .int .u8 0, .int .u8 0, .int .u8 0, .int .u8 0, .int .u8 0, .int .u8 0, .int .u8 0, .int .u8 0, .int .u8 0, .int .u8 0, .int .u8 0, .int .u8 0, .int .u8 0, .int .u8 0, .int .u8 0, .int .u8 0, .int .u8 0, .int .u8 0, .int .u8 0, .int .u8 0, .int .u8 0, .int .u8 0, .int .u8 0, .int .u8 0, .int .u8 0, .int .u8 0, .int .u8 0, .int .u8 0, .int .u8 0, .int .u8 0, .int .u8 0, .int .u8 0, .int .u8 0, .int .u8 0, .int .u8 0, .int .u8 0, .int .u8 0, .int .u8 0, .int .u8 0, .int .u8 0, .int .u8 0, .int .u8 0, .int .u8 0, .int .u8 0, .int .u8 0, .int .u8 0, .int .u8 0, .int .u8 0, .int .u8 0, .int .u8 0, .int .u8 0, .int .u8 0, .int .u8 0, .int .u8 0, .int .u8 0, .int .u8 0, .int .u8 0, .int .u8 0, .int .u8 0, .int .u8 0, .int .u8 0, .int .u8 0] 27)) A 27 ZS := by rw [← hA]; exact Row.new w #[.int .i64 0, .int .i64 0, .int .u8 0, .int .u8 0, .int .u8 0, .int .u8 0, .int .u8 0, .int .u8 0, .int .u8 0, .int .u8 0, .int .u8 0, .int .u8 0, .int .u8 0, .int .u8 0, .int .u8 0, .int .u8 0, .int .u8 0, .int .u8 0, .int .u8 0, .int .u8 0, .int .u8 0, .int .u8 0, .int .u8 0, .int .u8 0, .int .u8 0, .int .u8 0, .int .u8 0, .int .u8 0, .int .u8 0, .int .u8 0, .int .u8 0, .int .u8 0, .int .u8 0, .int .u8 0, .int .u8 0, .int .u8 0, .int .u8 0, .int .u8 0, .int .u8 0, .int .u8 0, .int .u8 0, .int .u8 0, .int .u8 0, .int .u8 0, .int .u8 0, .int .u8 0, .int .u8 0, .int .u8 0, .int .u8 0, .int .u8 0, .int .u8 0, .int .u8 0, .int .u8 0, .int .u8 0, .int .u8 0, .int .u8 0, .int .u8 0, .int .u8 0, .int .u8 0, .int .u8 0, .int .u8 0, .int .u8 0, .int .u8 0, .int .u8 0, .int .u8 0, .int .u8 0] 27
  have m0 : Mine A w (w.alloc (.cells #[.int .i64 0, .int .i64 0, .int .u8 0, .int .u8 0, .int .u8 0, .int .u8 0, .int .u8 0, .int .u8 0, .int .u8 0, .int .u8 0, .int .u8 0, .int .u8 0, .int .u8 0, .int .u8 0, .int .u8 0, .int .u8 0, .int .u8 0, .int .u8 0, .int .u8 0, .int .u8 0, .int .u8 0, .int .u8 0, .int .u8 0, .int .u8 0, .int .u8 0, .int .u8 0, .int .u8 0, .int .u8 0, .int .u8 0, .int .u8 0, .int .u8 0, .int .u8 0, .int .u8 0, .int .u8 0, .int .u8 0, .int .u8 0, .int .u8 0, .int .u8 0, .int .u8 0, .int .u8 0, .int .u8 0, .int .u8 0, .int .u8 0, .int .u8 0, .int .u8 0, .int .u8 0, .int .u8 0, .int .u8 0, .int .u8 0, .int .u8 0, .int .u8 0, .int .u8 0, .int .u8 0, .int .u8 0, .int .u8 0, .int .u8 0, .int .u8 0, .int .u8 0, .int .u8 0, .int .u8 0, .int .u8 0, .int .u8 0, .int .u8 0, .int .u8 0, .int .u8 0, .int .u8 0] 27)) := Mine.alloc ⟨by omega, Below.refl _ _⟩ _
  have R0 := Lib.hid r0
  have RZ := Lib.hid (r0.setRow ZS)
  have BZ := Lib.hid (below_setRow m0.bel (Nat.le_refl A) ZS.toArray)
  clear hv hok hpar hpe hn r0 m0
  have kz := zeroSeal
  go_enter Try.func24, Try.ntmps24
  go_wp2_with (first | (refine R0.out.store (m := ZS) rfl 27 (.tmp 2) (.tmp 9) rfl rfl rfl (by kernel_rfl) rfl (by kernel_rfl) ?_))
  refine bodyPost_ret (v := .tuple #[.agg ZS.toArray, .int .i64 60]) (rangeS_result2 RZ.out.range Try.results24 _ _ rfl rfl Try.underlying27 rfl (by kernel_rfl)) rfl ?_
  exact ⟨rfl, by first | exact BZ.out | (rw [hA]; exact BZ.out)⟩
/-- **seal.Parse** -/
theorem sparse_any (v : Value) (l : List UInt8) (w : World) (hv : SB w v l) :
    Calls Try.prog 24 #[v] w fun e w' => e = .returned (.tuple #[.agg (parC l).toArray, .int .i64 (parE l)]) ∧ Below w.heap.size w w' := by
  by_cases h : l.length = 72
  · exact parse_in v l w hv h
  · exact parse_out v l w hv h
end Go.Proofs.Ytnepmhdnkcnnmaa

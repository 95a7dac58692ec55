/- Words in memory; turns of words; squares and cubes. -/
import Derived.RangeFuncNested
import Derived.RangeFuncBound
import Derived.RangeFuncCalls
import Derived.RangeFuncLeaves
import Derived.Shelf.Abstract
import Derived.Shelf.RegionOpen
import Derived.WalkKit
import Derived.OwnWalkIn
import Derived.TacticsInMore
import Derived.LoopNIn
import Derived.LoopIn
import Derived.Outline
import Derived.Lib.Hide
import Derived.Lib.SliceRun
import Derived.IntWalk
import Derived.WalkLawsBesides
import Derived.WalkSpells
import Derived.Laws.BitsAllLaws
import Derived.Lib.ConvBytes
import Derived.Maps.AppendAt
import Derived.Lib.AppendStr
import Derived.Lib.SlBytesConst
import Derived.Laws.AppendOwnNone
import Derived.Laws.OwnMore
import Derived.Laws.BytesArg
import Derived.Deep.RegionHeld3
import Derived.BigQuiet
import Derived.Deep.RegionLaw
import Derived.Deep.QuietTactic
import Derived.Test.YtkipnhhdlohnfaaProg
import Derived.Test.YtkipnhhdlohnfaaShelf
import Derived.Test.YtkipnhhdlohnfaaDgMath
import Derived.Test.YtkipnhhdlohnfaaGen
set_option linter.unusedVariables false
set_option linter.unusedSimpArgs false
namespace Go.Proofs.Ytkipnhhdlohnfaa
open Go Go.RowKit Go.Shelf

/-- words as values -/
def encW (l : List (BitVec 32)) : List Value := l.map fun x => .int .u32 (x.toNat : Int)
theorem encW_length (l : List (BitVec 32)) : (encW l).length = l.length := by simp [encW]
theorem encW_get (l : List (BitVec 32)) (i : Nat) (h : i < l.length) : (encW l)[i]? = some (.int .u32 ((gw l i).toNat : Int)) := by simp [encW, gw, h]

/-- a row of memory that holds these values -/
def Row (W : World) (b : Nat) (t : TypeId) (l : List Value) : Prop := W.heap[b]? = some (.cells l.toArray t (0, 0))
theorem Row.lt {W : World} {b : Nat} {t : TypeId} {l : List Value} (h : Row W b t l) : b < W.heap.size := (Array.getElem?_eq_some_iff.1 h).1
theorem Row.cell {W : World} {b : Nat} {t : TypeId} {l : List Value} (h : Row W b t l) (i : Nat) : W.cell? ⟨b, i, none⟩ = l[i]? := by
  rw [cell_of_row W b i _ t _ h]; simp
theorem Row.frozen {W : World} {b : Nat} {t : TypeId} {l : List Value} (h : Row W b t l) (i : Nat) : W.frozen? ⟨b, i, none⟩ = false := frozen_of_row W b i _ t h
theorem Row.set {W : World} {b : Nat} {t : TypeId} {l : List Value} (h : Row W b t l) (i : Nat) (v : Value) : Row (W.setCell ⟨b, i, none⟩ v) b t (l.set i v) := by
  unfold Row
  rw [heap_setCell_same W b i _ t v h]
  congr 2
  simp
theorem Row.other {W : World} {b : Nat} {t : TypeId} {l : List Value} (h : Row W b t l) (a : Addr) (v : Value) (hb : b ≠ a.block) : Row (W.setCell a v) b t l := by
  unfold Row; rw [heap_setCell_other W a b v hb]; exact h
theorem Row.new (W : World) (c : Array Value) (t : TypeId) : Row (W.alloc (.cells c t)) W.heap.size t c.toList := by
  unfold Row; rw [heap_alloc_new]; 
theorem Row.alloc {W : World} {b : Nat} {t : TypeId} {l : List Value} (h : Row W b t l) (o : Obj) : Row (W.alloc o) b t l := by
  unfold Row; rw [heap_alloc_old _ _ _ h.lt]; exact h
theorem Row.below {W W' : World} {b n : Nat} {t : TypeId} {l : List Value} (h : Row W b t l) (hb : Below n W W') (hn : b < n) : Row W' b t l := by
  unfold Row; rw [hb.block b hn]; exact h

theorem ret32 {x y : BitVec 32} {a : Int} (h : a = (x.toNat : Int)) (e : x = y) : Ending.returned (.int .u32 a) = .returned (.int .u32 (y.toNat : Int)) := by rw [h, e]
theorem and31 (n : Nat) (h0 : 0 < n) (h1 : n < 32) : bits BinOp.and IntKind.u64 (IntKind.u64.wrap (-(n : Int))) 31 = ((32 - n : Nat) : Int) := by
  have e : IntKind.u64.wrap (-(n : Int)) = ((18446744073709551616 - n : Nat) : Int) := by rw [IntKind.wrap_u64]; omega
  rw [e, show (31 : Int) = ((31 : Nat) : Int) from rfl, bits_and_u64_nat _ 31 (by omega) (by omega)]
  have : (18446744073709551616 - n) &&& 31 = (18446744073709551616 - n) % 32 := Nat.and_two_pow_sub_one_eq_mod _ 5
  rw [this]
  omega
/-- a turn of a word to the right -/
theorem rot_any (x : BitVec 32) (n : Nat) (h0 : 0 < n) (h1 : n < 32) (w : World) :
    Calls Try.prog 63 #[.int .u32 (x.toNat : Int), .int .i64 (-(n : Int))] w fun e w' => e = .returned (.int .u32 ((rr x n).toNat : Int)) ∧ w' = w := by
  have hs := and31 n h0 h1
  obtain ⟨m, hm⟩ : ∃ m, m = 32 - n := ⟨_, rfl⟩
  rw [← hm] at hs
  have hm1 : (m : Int) ≤ 32 := by omega
  have hm2 : m ≤ 32 := by omega
  have hn1 : (n : Int) ≤ 32 := by omega
  have hn2 : n ≤ 32 := by omega
  have hw : IntKind.u64.wrap (32 - (m : Int)) = (n : Int) := by rw [IntKind.wrap_u64]; omega
  have hw' : (32 - (m : Int)) % 18446744073709551616 = (n : Int) := by omega
  have Hm := Lib.hid hm
  clear hm h0 h1
  go_enter Try.func63, Try.ntmps63
  go_wp2
  go_ret
  refine ⟨ret32 (x := x <<< m ||| x >>> n) ?_ (by rw [Hm.out]; rfl), rfl⟩
  rw [bv_shl, bv_shr, bv_or]

/-- three turns -/
theorem turned_any (x : BitVec 32) (p q r : Nat) (hp : 0 < p ∧ p < 32) (hq : 0 < q ∧ q < 32) (hr : 0 < r ∧ r < 32) (w : World) :
    Calls Try.prog 64 #[.int .u32 (x.toNat : Int), .int .i64 (p : Int), .int .i64 (q : Int), .int .i64 (r : Int)] w fun e w' => e = .returned (.int .u32 ((tri x p q r).toNat : Int)) ∧ w' = w := by
  have hp' : IntKind.i64.wrap (-(p : Int)) = -(p : Int) := IntWalk.i64_in _ (by omega)
  have hq' : IntKind.i64.wrap (-(q : Int)) = -(q : Int) := IntWalk.i64_in _ (by omega)
  have hr' : IntKind.i64.wrap (-(r : Int)) = -(r : Int) := IntWalk.i64_in _ (by omega)
  go_enter Try.func64, Try.ntmps64
  go_wp2_with fail
  refine (rot_any x p hp.1 hp.2 _).mono ?_
  rintro e w1 ⟨rfl, rfl⟩
  go_wp2_with fail
  refine (rot_any x q hq.1 hq.2 _).mono ?_
  rintro e w1 ⟨rfl, rfl⟩
  go_wp2_with fail
  refine (rot_any x r hr.1 hr.2 _).mono ?_
  rintro e w1 ⟨rfl, rfl⟩
  go_wp2
  go_ret
  refine ⟨ret32 (x := rr x p ^^^ rr x q ^^^ rr x r) ?_ rfl, rfl⟩
  rw [bv_xor, bv_xor]

theorem cubeN_parts (x p : Nat) (hx : x < 68719476736) (hp : p < 1000) : cubeN p x =
    (decide (x * x / 18446744073709551616 * x + x * x % 18446744073709551616 * x / 18446744073709551616 < p * 4294967296) ||
      (x * x / 18446744073709551616 * x + x * x % 18446744073709551616 * x / 18446744073709551616 == p * 4294967296 && x * x % 18446744073709551616 * x % 18446744073709551616 == 0)) := by
  obtain ⟨hi, e1⟩ : ∃ hi, x * x / 18446744073709551616 = hi := ⟨_, rfl⟩
  obtain ⟨lo, e2⟩ : ∃ lo, x * x % 18446744073709551616 = lo := ⟨_, rfl⟩
  have e3 : x * x = hi * 18446744073709551616 + lo := by omega
  obtain ⟨a, e4⟩ : ∃ a, lo * x / 18446744073709551616 = a := ⟨_, rfl⟩
  obtain ⟨b, e5⟩ : ∃ b, lo * x % 18446744073709551616 = b := ⟨_, rfl⟩
  have e6 : lo * x = a * 18446744073709551616 + b := by omega
  have e7 : x * x * x = (hi * x + a) * 18446744073709551616 + b := by
    rw [e3, Nat.add_mul, e6, Nat.mul_right_comm, Nat.add_mul]; omega
  rw [e1, e2, e4, e5]
  unfold cubeN
  rw [e7]
  obtain ⟨t, ht⟩ : ∃ t, hi * x + a = t := ⟨_, rfl⟩
  rw [ht]
  have hb : b < 18446744073709551616 := by omega
  by_cases h1 : t < p * 4294967296
  · have : t * 18446744073709551616 + b ≤ p * 79228162514264337593543950336 := by omega
    simp [h1, this]
  · by_cases h2 : t = p * 4294967296
    · subst h2
      by_cases h3 : b = 0
      · subst h3
        have : p * 4294967296 * 18446744073709551616 + 0 ≤ p * 79228162514264337593543950336 := by omega
        rw [decide_eq_true this]; simp only [beq_self_eq_true, Bool.and_self, Bool.or_true]
      · have : ¬ p * 4294967296 * 18446744073709551616 + b ≤ p * 79228162514264337593543950336 := by omega
        simp [this, h3]
    · have : ¬ t * 18446744073709551616 + b ≤ p * 79228162514264337593543950336 := by omega
      simp [h1, h2, this]
end Go.Proofs.Ytkipnhhdlohnfaa

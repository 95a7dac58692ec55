/- The reference: digits, words of a text, turns. -/
import Derived.RangeFuncNested
import Derived.RangeFuncBound
import Derived.RangeFuncCalls
import Derived.RangeFuncLeaves
import Derived.Shelf.Abstract
import Derived.Shelf.RegionOpen
import Derived.WalkKit
import Derived.OwnWalkIn
import Derived.TacticsInMore
import Derived.LoopNIn
import Derived.LoopIn
import Derived.Outline
import Derived.Lib.Hide
import Derived.Lib.SliceRun
import Derived.IntWalk
import Derived.WalkLawsBesides
import Derived.WalkSpells
import Derived.Laws.BitsAllLaws
import Derived.Lib.ConvBytes
import Derived.Maps.AppendAt
import Derived.Lib.AppendStr
import Derived.Lib.SlBytesConst
import Derived.Laws.AppendOwnNone
import Derived.Laws.OwnMore
import Derived.Laws.BytesArg
import Derived.Deep.RegionHeld3
import Derived.BigQuiet
import Derived.Deep.RegionLaw
import Derived.Deep.QuietTactic
import Derived.Test.YtkipnhhdlohnfaaProg
import Derived.Test.YtkipnhhdlohnfaaDgE
set_option linter.unusedVariables false
set_option linter.unusedSimpArgs false
namespace Go.Proofs.Ytkipnhhdlohnfaa
open Go Go.RowKit Go.Shelf

/-- a digit's worth -/
def digN (c : Nat) : Nat := if 48 ≤ c ∧ c ≤ 57 then c - 48 else if 97 ≤ c ∧ c ≤ 102 then c - 87 else 16
theorem digN_lt (c : Nat) : digN c < 17 := by unfold digN; split <;> (try split) <;> omega
theorem retI32 {a b : Int} (h : a = b) : Ending.returned (.int .u32 a) = .returned (.int .u32 b) := by rw [h]
theorem rdigit_any (c : Nat) (hc : c < 256) (w : World) : Calls Try.prog 50 #[.int .u8 (c : Int)] w fun e w' => e = .returned (.int .u32 (digN c : Int)) ∧ w' = w := by
  by_cases h1 : 48 ≤ c
  · by_cases h2 : c ≤ 57
    · have hd : digN c = c - 48 := by unfold digN; rw [if_pos ⟨h1, h2⟩]
      have hw : ((c : Int) - 48) % 256 = ((c - 48 : Nat) : Int) := by omega
      have hw2 : ((c - 48 : Nat) : Int) % 4294967296 = ((c - 48 : Nat) : Int) := by omega
      rw [hd]
      clear hd
      go_enter Try.func50, Try.ntmps50
      go_wp2
      go_ret
      exact ⟨retI32 (by first | rfl | omega), rfl⟩
    · by_cases h3 : 97 ≤ c
      · by_cases h4 : c ≤ 102
        · have hd : digN c = c - 87 := by unfold digN; rw [if_neg (by omega), if_pos ⟨h3, h4⟩]
          rw [hd]
          clear hd
          go_enter Try.func50, Try.ntmps50
          go_wp2
          go_ret
          exact ⟨retI32 (by first | rfl | omega), rfl⟩
        · have hd : digN c = 16 := by unfold digN; rw [if_neg (by omega), if_neg (by omega)]
          rw [hd]
          clear hd
          go_enter Try.func50, Try.ntmps50
          go_wp2
          go_ret
          exact ⟨retI32 (by first | rfl | omega), rfl⟩
      · have hd : digN c = 16 := by unfold digN; rw [if_neg (by omega), if_neg (by omega)]
        rw [hd]
        clear hd
        go_enter Try.func50, Try.ntmps50
        go_wp2
        go_ret
        exact ⟨retI32 (by first | rfl | omega), rfl⟩
  · have hd : digN c = 16 := by unfold digN; rw [if_neg (by omega), if_neg (by omega)]
    rw [hd]
    clear hd
    go_enter Try.func50, Try.ntmps50
    go_wp2
    go_ret
    exact ⟨retI32 (by first | rfl | omega), rfl⟩

/-- a turn to the right, as the reference has it -/
theorem rright_any (x : BitVec 32) (n : Nat) (h0 : 0 < n) (h1 : n < 32) (w : World) :
    Calls Try.prog 58 #[.int .u32 (x.toNat : Int), .int .i64 (n : Int)] w fun e w' => e = .returned (.int .u32 ((rr x n).toNat : Int)) ∧ w' = w := by
  obtain ⟨m, hm⟩ : ∃ m, m = 32 - n := ⟨_, rfl⟩
  have hm1 : (m : Int) ≤ 32 := by omega
  have hm2 : m ≤ 32 := by omega
  have hn1 : (n : Int) ≤ 32 := by omega
  have hn2 : n ≤ 32 := by omega
  have e1 : IntKind.u64.wrap (n : Int) = (n : Int) := by rw [IntKind.wrap_u64]; omega
  have e2 : IntKind.i64.wrap (32 - (n : Int)) = (m : Int) := by rw [IntWalk.i64_in _ (by omega)]; omega
  have e3 : IntKind.u64.wrap (m : Int) = (m : Int) := by rw [IntKind.wrap_u64]; omega
  have Hm := Lib.hid hm
  clear hm h0 h1
  go_enter Try.func58, Try.ntmps58
  go_wp2
  go_ret
  refine ⟨ret32 (x := x >>> n ||| x <<< m) ?_ (by rw [Hm.out, rr_ref]), rfl⟩
  rw [bv_shl, bv_shr, bv_or]

/-- a word of a text: j digits from o on -/
def wrd (l : List UInt8) (o : Nat) : Nat → BitVec 32
  | 0 => 0
  | j + 1 => wrd l o j <<< 4 ||| BitVec.ofNat 32 (digN ((l[o + j]?).getD 0).toNat)
def rootsL : List UInt8 := [52, 50, 56, 97, 50, 102, 57, 56, 55, 49, 51, 55, 52, 52, 57, 49, 98, 53, 99, 48, 102, 98, 99, 102, 101, 57, 98, 53, 100, 98, 97, 53, 51, 57, 53, 54, 99, 50, 53, 98, 53, 57, 102, 49, 49, 49, 102, 49, 57, 50, 51, 102, 56, 50, 97, 52, 97, 98, 49, 99, 53, 101, 100, 53, 100, 56, 48, 55, 97, 97, 57, 56, 49, 50, 56, 51, 53, 98, 48, 49, 50, 52, 51, 49, 56, 53, 98, 101, 53, 53, 48, 99, 55, 100, 99, 51, 55, 50, 98, 101, 53, 100, 55, 52, 56, 48, 100, 101, 98, 49, 102, 101, 57, 98, 100, 99, 48, 54, 97, 55, 99, 49, 57, 98, 102, 49, 55, 52, 101, 52, 57, 98, 54, 57, 99, 49, 101, 102, 98, 101, 52, 55, 56, 54, 48, 102, 99, 49, 57, 100, 99, 54, 50, 52, 48, 99, 97, 49, 99, 99, 50, 100, 101, 57, 50, 99, 54, 102, 52, 97, 55, 52, 56, 52, 97, 97, 53, 99, 98, 48, 97, 57, 100, 99, 55, 54, 102, 57, 56, 56, 100, 97, 57, 56, 51, 101, 53, 49, 53, 50, 97, 56, 51, 49, 99, 54, 54, 100, 98, 48, 48, 51, 50, 55, 99, 56, 98, 102, 53, 57, 55, 102, 99, 55, 99, 54, 101, 48, 48, 98, 102, 51, 100, 53, 97, 55, 57, 49, 52, 55, 48, 54, 99, 97, 54, 51, 53, 49, 49, 52, 50, 57, 50, 57, 54, 55, 50, 55, 98, 55, 48, 97, 56, 53, 50, 101, 49, 98, 50, 49, 51, 56, 52, 100, 50, 99, 54, 100, 102, 99, 53, 51, 51, 56, 48, 100, 49, 51, 54, 53, 48, 97, 55, 51, 53, 52, 55, 54, 54, 97, 48, 97, 98, 98, 56, 49, 99, 50, 99, 57, 50, 101, 57, 50, 55, 50, 50, 99, 56, 53, 97, 50, 98, 102, 101, 56, 97, 49, 97, 56, 49, 97, 54, 54, 52, 98, 99, 50, 52, 98, 56, 98, 55, 48, 99, 55, 54, 99, 53, 49, 97, 51, 100, 49, 57, 50, 101, 56, 49, 57, 100, 54, 57, 57, 48, 54, 50, 52, 102, 52, 48, 101, 51, 53, 56, 53, 49, 48, 54, 97, 97, 48, 55, 48, 49, 57, 97, 52, 99, 49, 49, 54, 49, 101, 51, 55, 54, 99, 48, 56, 50, 55, 52, 56, 55, 55, 52, 99, 51, 52, 98, 48, 98, 99, 98, 53, 51, 57, 49, 99, 48, 99, 98, 51, 52, 101, 100, 56, 97, 97, 52, 97, 53, 98, 57, 99, 99, 97, 52, 102, 54, 56, 50, 101, 54, 102, 102, 51, 55, 52, 56, 102, 56, 50, 101, 101, 55, 56, 97, 53, 54, 51, 54, 102, 56, 52, 99, 56, 55, 56, 49, 52, 56, 99, 99, 55, 48, 50, 48, 56, 57, 48, 98, 101, 102, 102, 102, 97, 97, 52, 53, 48, 54, 99, 101, 98, 98, 101, 102, 57, 97, 51, 102, 55, 99, 54, 55, 49, 55, 56, 102, 50]
def beginL : List UInt8 := [54, 97, 48, 57, 101, 54, 54, 55, 98, 98, 54, 55, 97, 101, 56, 53, 51, 99, 54, 101, 102, 51, 55, 50, 97, 53, 52, 102, 102, 53, 51, 97, 53, 49, 48, 101, 53, 50, 55, 102, 57, 98, 48, 53, 54, 56, 56, 99, 49, 102, 56, 51, 100, 57, 97, 98, 53, 98, 101, 48, 99, 100, 49, 57]
theorem roots_ok : (List.range 64).map (fun t => wrd rootsL (8 * t) 8) = (List.range 64).map kt := by decide +kernel
theorem begin_ok : (List.range 8).map (fun t => wrd beginL (8 * t) 8) = SW := by decide +kernel
theorem roots_at (t : Nat) (h : t < 64) : wrd rootsL (8 * t) 8 = kt t := by
  have := congrArg (fun l => l[t]?) roots_ok
  simpa [h] using this
theorem begin_at (t : Nat) (h : t < 8) : wrd beginL (8 * t) 8 = gw SW t := by
  have := congrArg (fun l => l[t]?) begin_ok
  unfold gw
  rw [← this]
  simp [h]
theorem idx_string (S : ByteArray) (l : List UInt8) (hS : S.data.toList = l) (i : Nat) (hi : i < l.length) (w : World) :
    (Instr.index 9 (.string S) (.int .i64 (i : Int))).run Try.prog w = .ok (.int .u8 ((((l[i]?).getD 0).toNat : Nat) : Int)) w := by
  have hs : S.size = l.length := by rw [← hS]; rfl
  rw [run_index_string w 9 S .i64 i Try.underlying9, dif_pos (by omega)]
  subst hS
  congr 2
  simp only [ByteArray.getElem_eq_getElem_data, Int.toNat_natCast, Array.getElem?_toList]
  rw [Array.getElem?_eq_getElem (by simpa using hi)]
  rfl

set_option maxRecDepth 100000 in
theorem rword_gen (S : ByteArray) (l : List UInt8) (hS : S.data.toList = l) (n : Nat) (hn : 8 * n + 8 ≤ l.length) (hmax : l.length ≤ 1000) (f : Nat → BitVec 32) (hf0 : f 0 = 0) (hf : ∀ j, j < 8 → f (j + 1) = f j <<< 4 ||| BitVec.ofNat 32 (digN ((l[8 * n + j]?).getD 0).toNat)) (w : World) :
    Calls Try.prog 40 #[.string S, .int .i64 (n : Int)] w fun e w' => e = .returned (.int .u32 ((f 8).toNat : Int)) ∧ w' = w := by
  have HS := Lib.hid hS
  have Hf := Lib.hid hf
  have Hf0 := Lib.hid hf0
  have m1 : IntKind.i64.wrap (8 * (n : Int)) = 8 * (n : Int) := IntWalk.i64_in _ (by omega)
  have m2 : IntKind.i64.wrap (8 * (n : Int) + 8) = 8 * (n : Int) + 8 := IntWalk.i64_in _ (by omega)
  clear hS hf hf0
  go_enter Try.func40, Try.ntmps40
  go_wp2
  go_loop [5, 6] (fun x i => ∃ j : Nat, j ≤ 8 ∧ i = .int .i64 ((8 * n + j : Nat) : Int) ∧ x = .int .u32 ((f j).toNat : Int)) (fun _ i => 8 * n + 8 - (intOf i).toNat)
  case atStart => exact ⟨0, by omega, by simp, by rw [Hf0.out]; rfl⟩
  case round =>
    obtain ⟨j, hj, rfl, rfl⟩ := hrel
    by_cases h8 : j < 8
    · obtain ⟨i, hi⟩ : ∃ i, 8 * n + j = i := ⟨_, rfl⟩
      have kx := fun w => idx_string S l HS.out i (by omega) w
      have hstep := Hf.out j h8
      rw [hi] at hstep ⊢
      obtain ⟨c, hc⟩ : ∃ c, ((l[i]?).getD 0).toNat = c := ⟨_, rfl⟩
      have hc256 : c < 256 := by rw [← hc]; exact UInt8.toNat_lt _
      rw [hc] at kx hstep
      have hlt : (i : Int) < 8 * (n : Int) + 8 := by omega
      have hdl := digN_lt c
      have hd := fun w => rdigit_any c hc256 w
      obtain ⟨d, hde⟩ : ∃ d, digN c = d := ⟨_, rfl⟩
      rw [hde] at hd hdl hstep
      have hor : bits BinOp.or IntKind.u32 (((f j).toNat : Int) * 16 % 4294967296) (d : Int) = ((f (j + 1)).toNat : Int) := by
        rw [hstep, ← bv_or, ← bv_shl]
        have : ((BitVec.ofNat 32 d).toNat : Int) = (d : Int) := by rw [BitVec.toNat_ofNat]; omega
        rw [this]; rfl
      obtain ⟨x, hx⟩ : ∃ x, f j = x := ⟨_, rfl⟩
      rw [hx] at hor ⊢
      obtain ⟨y, hy⟩ : ∃ y, f (j + 1) = y := ⟨_, rfl⟩
      rw [hy] at hor
      have Hy := Lib.hid hy
      have Hd := Lib.hid hd
      have Hi := Lib.hid hi
      clear hstep hc hde hx hy hd hi
      go_wp2_with fail
      refine (Hd.out _).mono ?_
      rintro e w1 ⟨rfl, rfl⟩
      go_wp2
      go_round
      case rel => exact ⟨j + 1, by omega, by rw [← Hi.out]; go_num, by rw [Hy.out]⟩
      case measure => simp [intOf]; omega
    · obtain rfl : j = 8 := by omega
      go_wp2
      go_ret
      exact ⟨rfl, rfl⟩
theorem rword_roots (S : ByteArray) (hS : S.data.toList = rootsL) (t : Nat) (h : t < 64) (w : World) :
    Calls Try.prog 40 #[.string S, .int .i64 (t : Int)] w fun e w' => e = .returned (.int .u32 ((kt t).toNat : Int)) ∧ w' = w := by
  have hl : rootsL.length = 512 := by decide +kernel
  rw [← roots_at t h]
  exact rword_gen S rootsL hS t (by rw [hl]; omega) (by rw [hl]; omega) (wrd rootsL (8 * t)) rfl (fun _ _ => rfl) w
theorem rword_begin (S : ByteArray) (hS : S.data.toList = beginL) (t : Nat) (h : t < 8) (w : World) :
    Calls Try.prog 40 #[.string S, .int .i64 (t : Int)] w fun e w' => e = .returned (.int .u32 ((gw SW t).toNat : Int)) ∧ w' = w := by
  have hl : beginL.length = 64 := by decide +kernel
  rw [← begin_at t h]
  exact rword_gen S beginL hS t (by rw [hl]; omega) (by rw [hl]; omega) (wrd beginL (8 * t)) rfl (fun _ _ => rfl) w
end Go.Proofs.Ytkipnhhdlohnfaa

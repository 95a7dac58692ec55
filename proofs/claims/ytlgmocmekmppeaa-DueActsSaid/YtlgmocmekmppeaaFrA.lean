/- The words of this seat's walks, and the check sums' walks. -/
import Derived.RangeFuncNested
import Derived.RangeFuncBound
import Derived.RangeFuncCalls
import Derived.RangeFuncLeaves
import Derived.Shelf.Abstract
import Derived.Shelf.RegionOpen
import Derived.WalkKit
import Derived.OwnWalkIn
import Derived.TacticsInMore
import Derived.LoopNIn
import Derived.LoopIn
import Derived.Outline
import Derived.Lib.Hide
import Derived.IntWalk
import Derived.WalkLawsBesides
import Derived.WalkSpells
import Derived.Laws.BitsAllLaws
import Derived.Lib.ConvBytes
import Derived.Maps.AppendAt
import Derived.Lib.AppendStr
import Derived.Laws.AppendOwnNone
import Derived.Laws.OwnMore
import Derived.Laws.BytesArg
import Derived.Test.YtlgmocmekmppeaaProg
import Derived.Test.YtlgmocmekmppeaaFrMath
set_option linter.unusedVariables false
set_option linter.unusedSimpArgs false
namespace Go.Proofs.Ytlgmocmekmppeaa
open Go Go.RowKit Go.Shelf

/-- byte i as a number -/
def gb (l : List UInt8) (i : Nat) : Nat := (l[i]?.getD 0).toNat
theorem gb_lt (l : List UInt8) (k : Nat) : (gb l k : Int) < 256 := by unfold gb; have := (l[k]?.getD 0).toNat_lt; omega

/-- A VALUE IS A SLICE THAT READS AS THESE BYTES. -/
def SB (W : World) (v : Value) (l : List UInt8) : Prop :=
  (v = .slice none 0 0 ∧ l = []) ∨
  ∃ ad c, v = .slice (some ad) l.length c ∧ l.length ≤ c ∧ c ≤ 9223372036854775807 ∧ (0 < l.length → ∃ g o, ad = ⟨g, o, none⟩ ∧ ∀ i, i < l.length → W.cell? ⟨g, o + i, none⟩ = some (.int .u8 (gb l i)))

theorem SB.form {W : World} {v : Value} {l : List UInt8} (h : SB W v l) :
    ∃ A c, v = .slice A l.length c ∧ l.length ≤ c ∧ c ≤ 9223372036854775807 ∧ (0 < l.length → ∃ g o, A = some ⟨g, o, none⟩ ∧ ∀ i, i < l.length → W.cell? ⟨g, o + i, none⟩ = some (.int .u8 (gb l i))) := by
  rcases h with ⟨rfl, rfl⟩ | ⟨ad, c, rfl, h1, h2, h3⟩
  · exact ⟨none, 0, rfl, by simp, by omega, fun h => by simp at h⟩
  · exact ⟨some ad, c, rfl, h1, h2, fun h => by obtain ⟨g, o, rfl, hc⟩ := h3 h; exact ⟨g, o, rfl, hc⟩⟩

theorem SB.below {W W' : World} {v : Value} {l : List UInt8} (h : SB W v l) (hb : Below W.heap.size W W') : SB W' v l := by
  rcases h with ⟨rfl, rfl⟩ | ⟨ad, c, rfl, h1, h2, h3⟩
  · exact .inl ⟨rfl, rfl⟩
  · refine .inr ⟨ad, c, rfl, h1, h2, fun h0 => ?_⟩
    obtain ⟨g, o, rfl, hc⟩ := h3 h0
    exact ⟨g, o, rfl, fun i hi => (hb.cell (p := ⟨g, o + i, none⟩) (World.block_lt_of_cell? W _ (hc i hi))).trans (hc i hi)⟩

theorem ret_u32 {a b : Int} (h : a = b) : Ending.returned (.int .u32 a) = .returned (.int .u32 b) := by rw [h]
theorem val_u32 {a b : Int} (h : a = b) : Value.int .u32 a = .int .u32 b := by rw [h]

theorem not32 {r : Nat} (h : r < 4294967296) : 4294967295 ^^^ r = 4294967295 - r := by
  have e := congrArg BitVec.toNat (BitVec.allOnes_xor (x := BitVec.ofNat 32 r))
  rw [BitVec.toNat_not, BitVec.toNat_xor, BitVec.toNat_allOnes, BitVec.toNat_ofNat, Nat.mod_eq_of_lt (show r < 2 ^ 32 from h)] at e
  exact e
theorem bits_not32 {r : Nat} (h : r < 4294967296) : bits BinOp.xor IntKind.u32 IntKind.u32.max (r : Int) = ((4294967295 - r : Nat) : Int) := by
  have : IntKind.u32.max = ((4294967295 : Nat) : Int) := by decide
  rw [this, u32_xor_nat _ _ (by omega) h, not32 h]

set_option maxRecDepth 100000 in
set_option maxHeartbeats 400000 in
theorem crc_ne (b off c : Nat) (l : List UInt8) (w : World) (hn : l.length ≤ 140737488351232)
  (hc : ∀ i, i < l.length → w.cell? ⟨b, off + i, none⟩ = some (.int .u8 (gb l i))) :
    Calls Try.prog 17 #[.slice (some ⟨b, off, none⟩) l.length c] w fun e w' => e = .returned (.int .u32 (crcN l : Nat)) ∧ w = w' := by
  have HC := Lib.hid hc; clear hc
  go_enter Try.func17, Try.ntmps17
  go_wp2
  go_loop [3, 8] (fun r i => ∃ k : Nat, k ≤ l.length ∧ i = .int .i64 k ∧ r = .int .u32 (regN (l.take k) : Nat)) (fun _ i => l.length - (intOf i).toNat)
  case atStart => exact ⟨0, Nat.zero_le _, rfl, rfl⟩
  case round =>
    obtain ⟨k, hk, rfl, rfl⟩ := hrel
    have hr := regN_lt (l.take k)
    by_cases hlt : k < l.length
    · have h1 := HC.out k hlt
      have hb := gb_lt l k
      go_wp2
      go_loop [3, 16] (fun r i => ∃ j : Nat, j ≤ 8 ∧ i = .int .i64 j ∧ r = .int .u32 (iterI bitA j (bits BinOp.xor IntKind.u32 (regN (l.take k) : Nat) (gb l k : Nat)))) (fun _ i => 8 - (intOf i).toNat)
      case atStart => exact ⟨0, Nat.zero_le _, rfl, rfl⟩
      case round =>
        obtain ⟨j, hj, rfl, rfl⟩ := hrel
        by_cases hj8 : j < 8
        · go_wp2
          go_round
          case rel => exact ⟨j + 1, by omega, by go_num, rfl⟩
          case measure => simp [intOf]; omega
        · obtain ⟨ρ, hρ⟩ : ∃ ρ, ρ = iterI bitA j (bits BinOp.xor IntKind.u32 (regN (l.take k) : Nat) (gb l k : Nat)) := ⟨_, rfl⟩
          rw [← hρ]
          have Hρ := Lib.hid hρ
          clear hρ
          go_wp2
          go_round
          case rel =>
            obtain rfl : j = 8 := by omega
            exact ⟨k + 1, by omega, by go_num, val_u32 (by rw [Hρ.out, regN_take l k hlt, ← stepA_nat hr]; rfl)⟩
          case measure => simp [intOf]; omega
    · obtain rfl : k = l.length := by omega
      go_wp2
      go_ret
      exact ⟨ret_u32 (by rw [bits_not32 (regN_lt l)]; rfl), rfl⟩

set_option maxRecDepth 100000 in
set_option maxHeartbeats 400000 in
theorem crc_nil (A : Option Addr) (c : Nat) (w : World) :
    Calls Try.prog 17 #[.slice A 0 c] w fun e w' => e = .returned (.int .u32 0) ∧ w = w' := by
  go_enter Try.func17, Try.ntmps17
  go_wp2
  go_loop [3, 8] (fun r i => i = .int .i64 0 ∧ r = .int .u32 4294967295) (fun _ i => 0)
  case atStart => exact ⟨rfl, rfl⟩
  case round =>
    obtain ⟨rfl, rfl⟩ := hrel
    go_wp2
    go_ret
    exact ⟨rfl, rfl⟩

theorem bitB_t {r c : Int} {i : Nat} (h : (bits BinOp.and IntKind.u32 (bits BinOp.xor IntKind.u32 r (c / 2 ^ i)) 1 == 1) = true) : bits BinOp.xor IntKind.u32 (r / 2) 3988292384 = bitB c i r := by
  unfold bitB outB; rw [if_pos (by simpa using h)]
theorem bitB_f {r c : Int} {i : Nat} (h : (bits BinOp.and IntKind.u32 (bits BinOp.xor IntKind.u32 r (c / 2 ^ i)) 1 == 1) = false) : r / 2 = bitB c i r := by
  unfold bitB outB; rw [if_neg (by simpa using h)]

/-- **frame.Crc** -/
theorem crc_any (v : Value) (l : List UInt8) (w : World) (hn : l.length ≤ 140737488351232) (h : SB w v l) :
    Calls Try.prog 17 #[v] w fun e w' => e = .returned (.int .u32 (crcN l : Nat)) ∧ w = w' := by
  obtain ⟨A, c, rfl, h1, h2, h3⟩ := h.form
  cases l with
  | nil => exact crc_nil A c w
  | cons x l =>
    obtain ⟨g, o, rfl, hc⟩ := h3 (by simp)
    exact crc_ne g o c (x :: l) w hn hc

set_option maxRecDepth 100000 in
set_option maxHeartbeats 400000 in
theorem rcrc_ne (b off c : Nat) (l : List UInt8) (w : World) (hn : l.length ≤ 140737488351232)
  (hc : ∀ i, i < l.length → w.cell? ⟨b, off + i, none⟩ = some (.int .u8 (gb l i))) :
    Calls Try.prog 18 #[.slice (some ⟨b, off, none⟩) l.length c] w fun e w' => e = .returned (.int .u32 (crcN l : Nat)) ∧ w = w' := by
  have HC := Lib.hid hc; clear hc
  go_enter Try.func18, Try.ntmps18
  go_wp2
  go_loop [3, 10] (fun r i => ∃ k : Nat, k ≤ l.length ∧ i = .int .i64 k ∧ r = .int .u32 (regN (l.take k) : Nat)) (fun _ i => l.length - (intOf i).toNat)
  case atStart => exact ⟨0, Nat.zero_le _, rfl, rfl⟩
  case round =>
    obtain ⟨k, hk, rfl, rfl⟩ := hrel
    have hr := regN_lt (l.take k)
    by_cases hlt : k < l.length
    · have h1 := HC.out k hlt
      have hb := gb_lt l k
      go_wp2
      go_loop [3, 6] (fun r i => ∃ j : Nat, j ≤ 8 ∧ i = .int .i64 j ∧ r = .int .u32 (iterB (gb l k : Nat) j (regN (l.take k) : Nat))) (fun _ i => 8 - (intOf i).toNat)
      case atStart => exact ⟨0, Nat.zero_le _, rfl, rfl⟩
      case round =>
        obtain ⟨j, hj, rfl, rfl⟩ := hrel
        by_cases hj8 : j < 8
        · go_wp2
          all_goals
            go_round
            case rel => first | exact ⟨j + 1, by omega, by go_num, val_u32 (bitB_t ‹_›)⟩ | exact ⟨j + 1, by omega, by go_num, val_u32 (bitB_f ‹_›)⟩
            case measure => simp [intOf]; omega
        · go_wp2
          go_round
          case rel =>
            obtain rfl : j = 8 := by omega
            exact ⟨k + 1, by omega, by go_num, val_u32 (by rw [regN_take l k hlt, ← stepB_nat hr]; rfl)⟩
          case measure => simp [intOf]; omega
    · obtain rfl : k = l.length := by omega
      go_wp2
      go_ret
      exact ⟨ret_u32 (by rw [bits_not32 (regN_lt l)]; rfl), rfl⟩

set_option maxRecDepth 100000 in
set_option maxHeartbeats 400000 in
theorem rcrc_nil (A : Option Addr) (c : Nat) (w : World) :
    Calls Try.prog 18 #[.slice A 0 c] w fun e w' => e = .returned (.int .u32 0) ∧ w = w' := by
  go_enter Try.func18, Try.ntmps18
  go_wp2
  go_loop [3, 10] (fun r i => i = .int .i64 0 ∧ r = .int .u32 4294967295) (fun _ i => 0)
  case atStart => exact ⟨rfl, rfl⟩
  case round =>
    obtain ⟨rfl, rfl⟩ := hrel
    go_wp2
    go_ret
    exact ⟨rfl, rfl⟩

/-- **the reference's Crc** -/
theorem rcrc_any (v : Value) (l : List UInt8) (w : World) (hn : l.length ≤ 140737488351232) (h : SB w v l) :
    Calls Try.prog 18 #[v] w fun e w' => e = .returned (.int .u32 (crcN l : Nat)) ∧ w = w' := by
  obtain ⟨A, c, rfl, h1, h2, h3⟩ := h.form
  cases l with
  | nil => exact rcrc_nil A c w
  | cons x l =>
    obtain ⟨g, o, rfl, hc⟩ := h3 (by simp)
    exact rcrc_ne g o c (x :: l) w hn hc
end Go.Proofs.Ytlgmocmekmppeaa

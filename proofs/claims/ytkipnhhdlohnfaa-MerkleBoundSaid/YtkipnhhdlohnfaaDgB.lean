/- The numbers of the hash: primes, fractions of roots. -/
import Derived.RangeFuncNested
import Derived.RangeFuncBound
import Derived.RangeFuncCalls
import Derived.RangeFuncLeaves
import Derived.Shelf.Abstract
import Derived.Shelf.RegionOpen
import Derived.WalkKit
import Derived.OwnWalkIn
import Derived.TacticsInMore
import Derived.LoopNIn
import Derived.LoopIn
import Derived.Outline
import Derived.Lib.Hide
import Derived.Lib.SliceRun
import Derived.IntWalk
import Derived.WalkLawsBesides
import Derived.WalkSpells
import Derived.Laws.BitsAllLaws
import Derived.Lib.ConvBytes
import Derived.Maps.AppendAt
import Derived.Lib.AppendStr
import Derived.Lib.SlBytesConst
import Derived.Laws.AppendOwnNone
import Derived.Laws.OwnMore
import Derived.Laws.BytesArg
import Derived.Deep.RegionHeld3
import Derived.BigQuiet
import Derived.Deep.RegionLaw
import Derived.Deep.QuietTactic
import Derived.Test.YtkipnhhdlohnfaaProg
import Derived.Test.YtkipnhhdlohnfaaDgA
set_option linter.unusedVariables false
set_option linter.unusedSimpArgs false
namespace Go.Proofs.Ytkipnhhdlohnfaa
open Go Go.RowKit Go.Shelf

theorem retB {a b : Bool} (h : a = b) : Ending.returned (.bool a) = .returned (.bool b) := by rw [h]
theorem wrap64N (a : Nat) (h : a < 18446744073709551616) : IntKind.u64.wrap (a : Int) = (a : Int) := by rw [IntKind.wrap_u64]; omega

/-- what the two products come to, each number under a name -/
theorem cube_names (x p : Nat) (hx : x < 68719476736) (hp : p < 1000) : ∃ hi lo a b t T S : Nat, x * x / 18446744073709551616 = hi ∧ x * x % 18446744073709551616 = lo ∧ lo < 18446744073709551616 ∧ lo * x / 18446744073709551616 = a ∧ lo * x % 18446744073709551616 = b ∧
    IntKind.u64.wrap ((hi : Int) * (x : Int)) = (t : Int) ∧ IntKind.u64.wrap ((t : Int) + (a : Int)) = (T : Int) ∧ IntKind.u64.wrap ((p : Int) * 4294967296) = (S : Int) ∧ cubeN p x = (decide (T < S) || (T == S && b == 0)) := by
  have hc := cubeN_parts x p hx hp
  have hxx : x * x / 18446744073709551616 < 256 := by
    have : x * x ≤ 68719476735 * 68719476735 := Nat.mul_le_mul (by omega) (by omega)
    omega
  have hlo : x * x % 18446744073709551616 < 18446744073709551616 := by omega
  obtain ⟨hi, e1⟩ : ∃ hi, x * x / 18446744073709551616 = hi := ⟨_, rfl⟩
  obtain ⟨lo, e2⟩ : ∃ lo, x * x % 18446744073709551616 = lo := ⟨_, rfl⟩
  rw [e1] at hxx
  rw [e2] at hlo
  rw [e1, e2] at hc
  obtain ⟨a, e4⟩ : ∃ a, lo * x / 18446744073709551616 = a := ⟨_, rfl⟩
  obtain ⟨b, e5⟩ : ∃ b, lo * x % 18446744073709551616 = b := ⟨_, rfl⟩
  rw [e4, e5] at hc
  have ha : a < 68719476736 := by
    have : lo * x ≤ 18446744073709551615 * x := Nat.mul_le_mul (by omega) (Nat.le_refl _)
    omega
  have hhx : hi * x ≤ 255 * 68719476735 := Nat.mul_le_mul (by omega) (by omega)
  obtain ⟨t, ht⟩ : ∃ t, hi * x = t := ⟨_, rfl⟩
  rw [ht] at hhx hc
  have w1 : IntKind.u64.wrap ((hi : Int) * (x : Int)) = (t : Int) := by
    rw [← Int.natCast_mul, ht]; exact wrap64N t (by omega)
  have w2 : IntKind.u64.wrap ((t : Int) + (a : Int)) = ((t + a : Nat) : Int) := by
    rw [← Int.natCast_add]; exact wrap64N _ (by omega)
  have w3 : IntKind.u64.wrap ((p : Int) * 4294967296) = ((p * 4294967296 : Nat) : Int) := by
    have e : (p : Int) * 4294967296 = ((p * 4294967296 : Nat) : Int) := by omega
    rw [e]; exact wrap64N _ (by omega)
  exact ⟨hi, lo, a, b, t, t + a, p * 4294967296, e1, e2, hlo, e4, e5, w1, w2, w3, hc⟩

set_option maxRecDepth 100000 in
theorem cube_any (x p : Nat) (hx : x < 68719476736) (hp : p < 1000) (w : World) :
    Calls Try.prog 61 #[.int .u64 (x : Int), .int .u64 (p : Int)] w fun e w' => e = .returned (.bool (cubeN p x)) ∧ w' = w := by
  obtain ⟨hi, lo, a, b, t, T, S, e1, e2, hlo, e4, e5, w1, w2, w3, hc⟩ := cube_names x p hx hp
  have hm1 := Try.bits_Mul64 x x (by omega) (by omega)
  have hm2 := Try.bits_Mul64 lo x hlo (by omega)
  rw [e1, e2] at hm1
  rw [e4, e5] at hm2
  have Hm1 := Lib.hid hm1
  have Hm2 := Lib.hid hm2
  have Hc := Lib.hid hc
  clear hm1 hm2 hc e1 e2 e4 e5 hlo hx hp
  by_cases h1 : T < S
  · have d1 : decide (T < S) = true := by simp; omega
    have hres : cubeN p x = true := by rw [Hc.out]; simp [h1]
    have Hres := Lib.hid hres
    clear h1 hres Hc
    go_enter Try.func61, Try.ntmps61
    go_wp2_with fail
    refine (Hm1.out _).mono ?_
    rintro e w1 ⟨rfl, rfl⟩
    go_wp2_with fail
    refine (Hm2.out _).mono ?_
    rintro e w1 ⟨rfl, rfl⟩
    go_wp2
    go_ret
    exact ⟨retB Hres.out.symm, rfl⟩
  · have d1 : decide (T < S) = false := by simp; omega
    by_cases h2 : T = S
    · have d2 : ((T : Int) == (S : Int)) = true := by simp; omega
      have hres : ((b : Int) == 0) = cubeN p x := by
        rw [Hc.out, decide_eq_false h1, h2]
        cases b with
        | zero => simp
        | succ b => simp; omega
      have Hres := Lib.hid hres
      clear h1 h2 hres Hc
      go_enter Try.func61, Try.ntmps61
      go_wp2_with fail
      refine (Hm1.out _).mono ?_
      rintro e w1 ⟨rfl, rfl⟩
      go_wp2_with fail
      refine (Hm2.out _).mono ?_
      rintro e w1 ⟨rfl, rfl⟩
      go_wp2
      go_ret
      exact ⟨retB Hres.out, rfl⟩
    · have d2 : ((T : Int) == (S : Int)) = false := by simp; omega
      have hres : cubeN p x = false := by rw [Hc.out]; simp [h1, h2]
      have Hres := Lib.hid hres
      clear h1 h2 hres Hc
      go_enter Try.func61, Try.ntmps61
      go_wp2_with fail
      refine (Hm1.out _).mono ?_
      rintro e w1 ⟨rfl, rfl⟩
      go_wp2_with fail
      refine (Hm2.out _).mono ?_
      rintro e w1 ⟨rfl, rfl⟩
      go_wp2
      go_ret
      exact ⟨retB Hres.out.symm, rfl⟩

theorem squareN_parts (x p : Nat) : squareN p x = (decide (x * x / 18446744073709551616 < p) || (x * x / 18446744073709551616 == p && x * x % 18446744073709551616 == 0)) := by
  unfold squareN
  obtain ⟨y, hy⟩ : ∃ y, x * x = y := ⟨_, rfl⟩
  rw [hy]
  by_cases h1 : y / 18446744073709551616 < p
  · have : y ≤ p * 18446744073709551616 := by omega
    rw [decide_eq_true this, decide_eq_true h1]; rfl
  · rw [decide_eq_false h1]
    by_cases h2 : y / 18446744073709551616 = p
    · by_cases h3 : y % 18446744073709551616 = 0
      · have : y ≤ p * 18446744073709551616 := by omega
        rw [decide_eq_true this, h2, h3]; simp only [beq_self_eq_true, Bool.and_self, Bool.or_true]
      · have : ¬ y ≤ p * 18446744073709551616 := by omega
        rw [decide_eq_false this, beq_false_of_ne h3]; simp
    · have : ¬ y ≤ p * 18446744073709551616 := by omega
      rw [decide_eq_false this, beq_false_of_ne h2]; simp
theorem square_any (x p : Nat) (hx : x < 68719476736) (w : World) :
    Calls Try.prog 62 #[.int .u64 (x : Int), .int .u64 (p : Int)] w fun e w' => e = .returned (.bool (squareN p x)) ∧ w' = w := by
  have hc := squareN_parts x p
  have hm1 := Try.bits_Mul64 x x (by omega) (by omega)
  obtain ⟨hi, e1⟩ : ∃ hi, x * x / 18446744073709551616 = hi := ⟨_, rfl⟩
  obtain ⟨lo, e2⟩ : ∃ lo, x * x % 18446744073709551616 = lo := ⟨_, rfl⟩
  rw [e1, e2] at hm1 hc
  have Hm1 := Lib.hid hm1
  have Hc := Lib.hid hc
  clear hm1 hc e1 e2 hx
  by_cases h1 : hi < p
  · have d1 : decide (hi < p) = true := by simp; omega
    have hres : squareN p x = true := by rw [Hc.out]; simp [h1]
    have Hres := Lib.hid hres
    clear h1 hres Hc
    go_enter Try.func62, Try.ntmps62
    go_wp2_with fail
    refine (Hm1.out _).mono ?_
    rintro e w1 ⟨rfl, rfl⟩
    go_wp2
    go_ret
    exact ⟨retB Hres.out.symm, rfl⟩
  · have d1 : decide (hi < p) = false := by simp; omega
    by_cases h2 : hi = p
    · have d2 : ((hi : Int) == (p : Int)) = true := by simp; omega
      have hres : ((lo : Int) == 0) = squareN p x := by
        rw [Hc.out, decide_eq_false h1, h2]
        cases lo with
        | zero => simp
        | succ b => simp; omega
      have Hres := Lib.hid hres
      clear h1 h2 hres Hc
      go_enter Try.func62, Try.ntmps62
      go_wp2_with fail
      refine (Hm1.out _).mono ?_
      rintro e w1 ⟨rfl, rfl⟩
      go_wp2
      go_ret
      exact ⟨retB Hres.out, rfl⟩
    · have d2 : ((hi : Int) == (p : Int)) = false := by simp; omega
      have hres : squareN p x = false := by rw [Hc.out]; simp [h1, h2]
      have Hres := Lib.hid hres
      clear h1 h2 hres Hc
      go_enter Try.func62, Try.ntmps62
      go_wp2_with fail
      refine (Hm1.out _).mono ?_
      rintro e w1 ⟨rfl, rfl⟩
      go_wp2
      go_ret
      exact ⟨retB Hres.out.symm, rfl⟩

theorem or64 (x j : Nat) (hx : x < 68719476736) (hj : j ≤ 35) : bits BinOp.or IntKind.u64 (x : Int) (IntKind.u64.wrap ((2 : Int) ^ j)) = ((x ||| 2 ^ j : Nat) : Int) := by
  rw [IntKind.wrap_u64]
  have h2 : (2 : Nat) ^ j ≤ 2 ^ 35 := Nat.pow_le_pow_right (by omega) hj
  have e : (2 : Int) ^ j % 18446744073709551616 = ((2 ^ j : Nat) : Int) := by
    rw [show (2 : Int) ^ j = ((2 ^ j : Nat) : Int) by simp]
    generalize 2 ^ j = z at h2 ⊢
    omega
  rw [e, bits_or_u64_nat _ _ (by omega) (by omega)]
set_option maxRecDepth 100000 in
/-- digest.fraction at whatever test -/
theorem fraction_any (fn p : Nat) (f : Nat → Bool) (hen : ∀ args w, (callFunc fn args).run Try.prog w = .ok (.enter fn args) w) (hf : ∀ (y : Nat) w, y < 68719476736 → Calls Try.prog fn #[.int .u64 (y : Int), .int .u64 (p : Int)] w fun e w' => e = .returned (.bool (f y)) ∧ w' = w) (w : World) :
    Calls Try.prog 60 #[.func (.func fn) #[] #[], .int .u64 (p : Int)] w fun e w' => e = .returned (.int .u32 ((fr f 36 % 4294967296 : Nat) : Int)) ∧ w' = w := by
  have Hf := Lib.hid hf
  clear hf
  go_enter Try.func60, Try.ntmps60
  go_wp2
  go_loop [5, 8] (fun x i => ∃ k : Nat, k ≤ 36 ∧ i = .int .i64 k ∧ x = .int .u64 (fr f k : Nat)) (fun _ i => 36 - (intOf i).toNat)
  case atStart => exact ⟨0, Nat.zero_le _, rfl, rfl⟩
  case round =>
    obtain ⟨k, hk, rfl, rfl⟩ := hrel
    have hx := fr_lt f k
    by_cases h36 : k < 36
    · have hj : IntKind.i64.wrap (35 - (k : Int)) = ((35 - k : Nat) : Int) := by rw [IntWalk.i64_in _ (by omega)]; omega
      have hstep : fr f (k + 1) = frStep f k (fr f k) := rfl
      have ho := or64 (fr f k) (35 - k) hx (by omega)
      have hy : fr f k ||| 2 ^ (35 - k) < 68719476736 := Nat.or_lt_two_pow (n := 36) hx (Nat.pow_lt_pow_right (by omega) (by omega))
      unfold frStep at hstep
      obtain ⟨y, hye⟩ : ∃ y, fr f k ||| 2 ^ (35 - k) = y := ⟨_, rfl⟩
      rw [hye] at hstep ho hy
      obtain ⟨x, hxe⟩ : ∃ x, fr f k = x := ⟨_, rfl⟩
      rw [hxe] at hstep ho hx ⊢
      obtain ⟨j, hje⟩ : ∃ j, 35 - k = j := ⟨_, rfl⟩
      rw [hje] at hj ho
      have Hstep := Lib.hid hstep
      have Hy := Lib.hid hy
      have hj35 : j ≤ 35 := by omega
      have hj64 : (j : Int) ≤ 64 := by omega
      clear hstep hye hxe hje hy hx
      go_wp2_with fail
      refine (Hf.out y _ Hy.out).mono ?_
      rintro e w1 ⟨rfl, hw1⟩
      subst hw1
      cases hfy : f y with
      | true =>
        have hz : fr f (k + 1) = y := by rw [Hstep.out, if_pos hfy]
        clear hfy Hstep ho hj
        go_wp2
        exact ⟨⟨k + 1, by omega, by go_num, by rw [hz]⟩, by simp [intOf]; omega⟩
      | false =>
        have hz : fr f (k + 1) = x := by rw [Hstep.out, if_neg (by simp [hfy])]
        clear hfy Hstep ho hj
        go_wp2
        exact ⟨⟨k + 1, by omega, by go_num, by rw [hz]⟩, by simp [intOf]; omega⟩
    · obtain rfl : k = 36 := by omega
      go_wp2
      go_ret
      exact ⟨rfl, rfl⟩
end Go.Proofs.Ytkipnhhdlohnfaa

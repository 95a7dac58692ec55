/- Plain facts on the check sum of layer 2: the two ways of reckoning it agree. No program in sight. -/
import Derived.Laws.BitsAllLaws
namespace Go.Proofs.Ytlgmocmekmppeaa
open Go

/-- one bit, as frame.Crc reckons it -/
def bitA (r : Int) : Int := bits BinOp.xor IntKind.u32 (r / 2) (bits BinOp.and IntKind.u32 3988292384 (-bits BinOp.and IntKind.u32 r 1 % 4294967296))
/-- k times -/
def iterI (f : Int → Int) : Nat → Int → Int
  | 0, r => r
  | k + 1, r => f (iterI f k r)
/-- the bit that falls out, as the reference sees it -/
def outB (r c : Int) (i : Nat) : Int := bits BinOp.and IntKind.u32 (bits BinOp.xor IntKind.u32 r (c / 2 ^ i)) 1
/-- one bit, as the reference reckons it -/
def bitB (c : Int) (i : Nat) (r : Int) : Int := if outB r c i = 1 then bits BinOp.xor IntKind.u32 (r / 2) 3988292384 else r / 2
def iterB (c : Int) : Nat → Int → Int
  | 0, r => r
  | k + 1, r => bitB c k (iterB c k r)

def stepA (r : Int) (c : UInt8) : Int := iterI bitA 8 (bits BinOp.xor IntKind.u32 r c.toNat)
def stepB (r : Int) (c : UInt8) : Int := iterB c.toNat 8 r

/-- in natural numbers -/
def bitN (r : Nat) : Nat := r / 2 ^^^ (if r % 2 = 1 then 3988292384 else 0)
def iterNat : Nat → Nat → Nat
  | 0, r => r
  | k + 1, r => bitN (iterNat k r)
def stepN (r : Nat) (c : UInt8) : Nat := iterNat 8 (r ^^^ c.toNat)
/-- the register behind some bytes -/
def regN (l : List UInt8) : Nat := l.foldl stepN 4294967295
/-- the check sum -/
def crcN (l : List UInt8) : Nat := 4294967295 - regN l

theorem xor_lt32 {a b : Nat} (ha : a < 4294967296) (hb : b < 4294967296) : a ^^^ b < 4294967296 := Nat.xor_lt_two_pow (n := 32) ha hb

theorem bitN_lt {r : Nat} (h : r < 4294967296) : bitN r < 4294967296 := by
  unfold bitN
  refine xor_lt32 (by omega) ?_
  split <;> omega
theorem iterNat_lt {r : Nat} (h : r < 4294967296) : ∀ k, iterNat k r < 4294967296
  | 0 => h
  | k + 1 => bitN_lt (iterNat_lt h k)
theorem u8_lt (c : UInt8) : c.toNat < 256 := c.toNat_lt
theorem stepN_lt {r : Nat} (h : r < 4294967296) (c : UInt8) : stepN r c < 4294967296 :=
  iterNat_lt (xor_lt32 h (by have := u8_lt c; omega)) 8
theorem foldl_stepN_lt (l : List UInt8) : ∀ r, r < 4294967296 → l.foldl stepN r < 4294967296 := by
  induction l with
  | nil => intro r h; exact h
  | cons c l ih => intro r h; exact ih _ (stepN_lt h c)
theorem regN_lt (l : List UInt8) : regN l < 4294967296 := foldl_stepN_lt l _ (by omega)

theorem bitA_nat {r : Nat} (h : r < 4294967296) : bitA (r : Int) = (bitN r : Nat) := by
  unfold bitA bitN
  rw [show (1 : Int) = ((1 : Nat) : Int) from rfl, u32_and_nat r 1 h (by omega)]
  have e1 : r &&& 1 = r % 2 := Nat.and_one_is_mod r
  rw [e1]
  have e2 : (r : Int) / 2 = ((r / 2 : Nat) : Int) := by omega
  rw [e2]
  rcases Nat.mod_two_eq_zero_or_one r with h0 | h0
  · rw [h0]
    have e3 : (-((0 : Nat) : Int) % 4294967296) = ((0 : Nat) : Int) := by omega
    rw [e3, show (3988292384 : Int) = ((3988292384 : Nat) : Int) from rfl, u32_and_nat _ _ (by omega) (by omega), u32_xor_nat _ _ (by omega) (by simp)]
    simp
  · rw [h0]
    have e3 : (-((1 : Nat) : Int) % 4294967296) = ((4294967295 : Nat) : Int) := by omega
    rw [e3, show (3988292384 : Int) = ((3988292384 : Nat) : Int) from rfl, u32_and_nat _ _ (by omega) (by omega)]
    have e4 : 3988292384 &&& 4294967295 = 3988292384 := by decide +kernel
    rw [e4, u32_xor_nat _ _ (by omega) (by omega)]
    simp
theorem iterI_nat {r : Nat} (h : r < 4294967296) : ∀ k, iterI bitA k (r : Int) = (iterNat k r : Nat)
  | 0 => rfl
  | k + 1 => by
    rw [iterI, iterI_nat h k, bitA_nat (iterNat_lt h k)]; rfl
theorem stepA_nat {r : Nat} (h : r < 4294967296) (c : UInt8) : stepA (r : Int) c = (stepN r c : Nat) := by
  unfold stepA stepN
  have := u8_lt c
  rw [u32_xor_nat _ _ h (by omega), iterI_nat (xor_lt32 h (by omega))]

/-- what the reference has after k bits, put together with what is left of the byte, is what the program has -/
theorem iterB_nat {r : Nat} (h : r < 4294967296) (c : UInt8) : ∀ k, k ≤ 8 → ∃ q : Nat, q < 4294967296 ∧ iterB c.toNat k (r : Int) = (q : Int) ∧ q ^^^ (c.toNat / 2 ^ k) = iterNat k (r ^^^ c.toNat)
  | 0, _ => ⟨r, h, rfl, by simp [iterNat]⟩
  | k + 1, hk => by
    obtain ⟨q, hq, e, hx⟩ := iterB_nat h c k (by omega)
    have hc := u8_lt c
    have hd : c.toNat / 2 ^ k < 256 := Nat.lt_of_le_of_lt (Nat.div_le_self _ _) hc
    have hout : outB (q : Int) c.toNat k = (((q ^^^ (c.toNat / 2 ^ k)) % 2 : Nat) : Int) := by
      unfold outB
      have : (c.toNat : Int) / 2 ^ k = ((c.toNat / 2 ^ k : Nat) : Int) := by
        rw [show (2 : Int) ^ k = ((2 ^ k : Nat) : Int) by simp]; exact (Int.natCast_ediv _ _).symm
      rw [this, u32_xor_nat _ _ hq (by omega), show (1 : Int) = ((1 : Nat) : Int) from rfl, u32_and_nat _ _ (xor_lt32 hq (by omega)) (by omega), Nat.and_one_is_mod]
    have e2 : (q : Int) / 2 = ((q / 2 : Nat) : Int) := by omega
    have hshift : (q ^^^ (c.toNat / 2 ^ k)) / 2 = q / 2 ^^^ c.toNat / 2 ^ (k + 1) := by
      have h1 := Nat.shiftRight_xor_distrib (a := q) (b := c.toNat / 2 ^ k) (i := 1)
      simp only [Nat.shiftRight_eq_div_pow, Nat.pow_one] at h1
      rw [h1, Nat.div_div_eq_div_mul, Nat.pow_succ]
    rw [iterB, e]
    unfold bitB
    rw [hout, e2]
    refine ⟨q / 2 ^^^ (if (q ^^^ (c.toNat / 2 ^ k)) % 2 = 1 then 3988292384 else 0), xor_lt32 (by omega) (by split <;> omega), ?_, ?_⟩
    · by_cases h1 : (q ^^^ (c.toNat / 2 ^ k)) % 2 = 1
      · rw [if_pos h1, if_pos (by rw [h1]; rfl), show (3988292384 : Int) = ((3988292384 : Nat) : Int) from rfl, u32_xor_nat _ _ (by omega) (by omega)]
      · rw [if_neg h1, if_neg (by omega)]; simp
    · rw [iterNat, ← hx, bitN, hshift]
      rw [Nat.xor_assoc, Nat.xor_assoc, Nat.xor_comm (c.toNat / 2 ^ (k + 1))]
theorem stepB_nat {r : Nat} (h : r < 4294967296) (c : UInt8) : stepB (r : Int) c = (stepN r c : Nat) := by
  obtain ⟨q, hq, e, hx⟩ := iterB_nat h c 8 (by omega)
  unfold stepB stepN
  rw [e, ← hx]
  have : c.toNat / 2 ^ 8 = 0 := by have := u8_lt c; omega
  rw [this]; simp
theorem regN_snoc (l : List UInt8) (c : UInt8) : regN (l ++ [c]) = stepN (regN l) c := by simp [regN]
theorem regN_take (l : List UInt8) (k : Nat) (h : k < l.length) : regN (l.take (k + 1)) = stepN (regN (l.take k)) (l[k]?.getD 0) := by
  rw [List.take_succ_eq_append_getElem h, regN_snoc]
  simp [h]
end Go.Proofs.Ytlgmocmekmppeaa

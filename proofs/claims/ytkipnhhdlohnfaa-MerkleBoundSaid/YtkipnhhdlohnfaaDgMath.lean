/- Plain facts on the hash of layer 4. No program in sight. -/
import Derived.Laws.BitsAllLaws
namespace Go.Proofs.Ytkipnhhdlohnfaa
open Go

/-! words -/
theorem bv_and (x y : BitVec 32) : bits BinOp.and IntKind.u32 (x.toNat : Int) (y.toNat : Int) = ((x &&& y).toNat : Int) := by
  rw [u32_and_nat _ _ x.isLt y.isLt, BitVec.toNat_and]
theorem bv_or (x y : BitVec 32) : bits BinOp.or IntKind.u32 (x.toNat : Int) (y.toNat : Int) = ((x ||| y).toNat : Int) := by
  rw [u32_or_nat _ _ x.isLt y.isLt, BitVec.toNat_or]
theorem bv_xor (x y : BitVec 32) : bits BinOp.xor IntKind.u32 (x.toNat : Int) (y.toNat : Int) = ((x ^^^ y).toNat : Int) := by
  rw [u32_xor_nat _ _ x.isLt y.isLt, BitVec.toNat_xor]
theorem bv_add (x y : BitVec 32) : ((x.toNat : Int) + (y.toNat : Int)) % 4294967296 = ((x + y).toNat : Int) := by
  rw [BitVec.toNat_add]; omega
theorem bv_shl (x : BitVec 32) (k : Nat) : ((x.toNat : Int) * 2 ^ k) % 4294967296 = ((x <<< k).toNat : Int) := by
  rw [BitVec.toNat_shiftLeft, Nat.shiftLeft_eq]
  simp
theorem bv_shr (x : BitVec 32) (k : Nat) : (x.toNat : Int) / 2 ^ k = ((x >>> k).toNat : Int) := by
  rw [BitVec.toNat_ushiftRight, Nat.shiftRight_eq_div_pow]
  simp
theorem bv_not (x : BitVec 32) : 4294967295 - (x.toNat : Int) = ((~~~ x).toNat : Int) := by
  rw [BitVec.toNat_not]; have := x.isLt; omega

structure St where
  a : BitVec 32
  b : BitVec 32
  c : BitVec 32
  d : BitVec 32
  e : BitVec 32
  f : BitVec 32
  g : BitVec 32
  h : BitVec 32
def St.list (s : St) : List (BitVec 32) := [s.a, s.b, s.c, s.d, s.e, s.f, s.g, s.h]
def St.plus (s t : St) : St := ⟨s.a + t.a, s.b + t.b, s.c + t.c, s.d + t.d, s.e + t.e, s.f + t.f, s.g + t.g, s.h + t.h⟩
def rr (x : BitVec 32) (n : Nat) : BitVec 32 := x <<< (32 - n) ||| x >>> n
def tri (x : BitVec 32) (p q r : Nat) : BitVec 32 := rr x p ^^^ rr x q ^^^ rr x r
def chs (e f g : BitVec 32) : BitVec 32 := g ^^^ (e &&& (f ^^^ g))
def maj (a b c : BitVec 32) : BitVec 32 := (a &&& b) ||| (c &&& (a ||| b))
theorem chs_ref (e f g : BitVec 32) : (e &&& f) ^^^ (~~~ e &&& g) = chs e f g := by
  unfold chs
  ext i hi
  simp only [BitVec.getElem_xor, BitVec.getElem_and, BitVec.getElem_not]
  cases e[i] <;> cases f[i] <;> cases g[i] <;> rfl
theorem maj_ref (a b c : BitVec 32) : (a &&& b) ||| (a &&& c) ||| (b &&& c) = maj a b c := by
  unfold maj
  ext i hi
  simp only [BitVec.getElem_or, BitVec.getElem_and]
  cases a[i] <;> cases b[i] <;> cases c[i] <;> rfl
theorem rr_ref (x : BitVec 32) (n : Nat) : x >>> n ||| x <<< (32 - n) = rr x n := BitVec.or_comm ..
def rnd (s : St) (k w : BitVec 32) : St :=
  ⟨s.h + tri s.e 6 11 25 + chs s.e s.f s.g + k + w + (tri s.a 2 13 22 + maj s.a s.b s.c), s.a, s.b, s.c, s.d + (s.h + tri s.e 6 11 25 + chs s.e s.f s.g + k + w), s.e, s.f, s.g⟩
def low (x : BitVec 32) : BitVec 32 := rr x 7 ^^^ rr x 18 ^^^ x >>> 3
def high (x : BitVec 32) : BitVec 32 := rr x 17 ^^^ rr x 19 ^^^ x >>> 10
def gw (l : List (BitVec 32)) (i : Nat) : BitVec 32 := (l[i]?).getD 0
def g8 (l : List UInt8) (i : Nat) : BitVec 32 := BitVec.ofNat 32 ((l[i]?).getD 0).toNat
def be4 (l : List UInt8) (t : Nat) : BitVec 32 := g8 l (4 * t) <<< 24 ||| g8 l (4 * t + 1) <<< 16 ||| g8 l (4 * t + 2) <<< 8 ||| g8 l (4 * t + 3)
/-- as the program puts four bytes together -/
def be4at (l : List UInt8) (t : Nat) : Nat → BitVec 32
  | 0 => 0
  | j + 1 => be4at l t j <<< 8 ||| g8 l (4 * t + j)
theorem be4at_four (l : List UInt8) (t : Nat) : be4at l t 4 = be4 l t := by
  simp only [be4at, be4, BitVec.shiftLeft_or_distrib, ← BitVec.shiftLeft_add]
  simp
def wt (blk : List UInt8) (l : List (BitVec 32)) (t : Nat) : BitVec 32 :=
  if t < 16 then be4 blk t else gw l (t - 16) + low (gw l (t - 15)) + gw l (t - 7) + high (gw l (t - 2))
theorem wt_ref (a b c d : BitVec 32) : d + c + b + a = a + b + c + d := by ac_rfl
def ws (blk : List UInt8) : Nat → List (BitVec 32)
  | 0 => []
  | t + 1 => ws blk t ++ [wt blk (ws blk t) t]
theorem ws_length (blk : List UInt8) : ∀ t, (ws blk t).length = t
  | 0 => rfl
  | t + 1 => by simp [ws, ws_length blk t]
theorem ws_get (blk : List UInt8) (i : Nat) : ∀ t, i < t → (ws blk t)[i]? = some (wt blk (ws blk i) i)
  | 0, h => absurd h (Nat.not_lt_zero _)
  | t + 1, h => by
    rw [ws]
    by_cases e : i = t
    · subst e
      rw [List.getElem?_append_right (by rw [ws_length]; exact Nat.le_refl _), ws_length]
      simp
    · rw [List.getElem?_append_left (by rw [ws_length]; omega)]
      exact ws_get blk i t (by omega)
def KN : List Nat := [1116352408, 1899447441, 3049323471, 3921009573, 961987163, 1508970993, 2453635748, 2870763221, 3624381080, 310598401, 607225278, 1426881987, 1925078388, 2162078206, 2614888103, 3248222580, 3835390401, 4022224774, 264347078, 604807628, 770255983, 1249150122, 1555081692, 1996064986, 2554220882, 2821834349, 2952996808, 3210313671, 3336571891, 3584528711, 113926993, 338241895, 666307205, 773529912, 1294757372, 1396182291, 1695183700, 1986661051, 2177026350, 2456956037, 2730485921, 2820302411, 3259730800, 3345764771, 3516065817, 3600352804, 4094571909, 275423344, 430227734, 506948616, 659060556, 883997877, 958139571, 1322822218, 1537002063, 1747873779, 1955562222, 2024104815, 2227730452, 2361852424, 2428436474, 2756734187, 3204031479, 3329325298]
def BN : List Nat := [1779033703, 3144134277, 1013904242, 2773480762, 1359893119, 2600822924, 528734635, 1541459225]
def PN : List Nat := [2, 3, 5, 7, 11, 13, 17, 19, 23, 29, 31, 37, 41, 43, 47, 53, 59, 61, 67, 71, 73, 79, 83, 89, 97, 101, 103, 107, 109, 113, 127, 131, 137, 139, 149, 151, 157, 163, 167, 173, 179, 181, 191, 193, 197, 199, 211, 223, 227, 229, 233, 239, 241, 251, 257, 263, 269, 271, 277, 281, 283, 293, 307, 311]
def kt (t : Nat) : BitVec 32 := BitVec.ofNat 32 ((KN[t]?).getD 0)
def s0 : St := ⟨1779033703#32, 3144134277#32, 1013904242#32, 2773480762#32, 1359893119#32, 2600822924#32, 528734635#32, 1541459225#32⟩
def rs (w : List (BitVec 32)) (s : St) : Nat → St
  | 0 => s
  | t + 1 => rnd (rs w s t) (kt t) (gw w t)
def blockS (s : St) (blk : List UInt8) : St := s.plus (rs (ws blk 64) s 64)
def comp (l : List UInt8) : Nat → St
  | 0 => s0
  | k + 1 => blockS (comp l k) (l.drop (64 * k))
def be8 (n : Nat) : List UInt8 := (List.range 8).map fun i => UInt8.ofNat (n / 2 ^ (56 - 8 * i))
def pad (b : List UInt8) : List UInt8 := b ++ [128] ++ List.replicate ((120 - (b.length + 1) % 64) % 64) 0 ++ be8 (8 * b.length)
def outB (s : St) : List UInt8 := (List.range 32).map fun i => UInt8.ofNat ((gw s.list (i / 4)).toNat / 2 ^ (24 - 8 * (i % 4)))
def sumL (b : List UInt8) : List UInt8 := outB (comp (pad b) ((pad b).length / 64))
theorem sumL_length (b : List UInt8) : (sumL b).length = 32 := by simp [sumL, outB]

/-! primes and roots -/
def pb : Nat → List Nat
  | 0 => []
  | k + 1 => if (pb k).any (fun q => (k + 2) % q == 0) then pb k else pb k ++ [k + 2]
def cubeN (p x : Nat) : Bool := decide (x * x * x ≤ p * 79228162514264337593543950336)
def squareN (p x : Nat) : Bool := decide (x * x ≤ p * 18446744073709551616)
def frStep (f : Nat → Bool) (i x : Nat) : Nat := if f (x ||| 2 ^ (35 - i)) then x ||| 2 ^ (35 - i) else x
def fr (f : Nat → Bool) : Nat → Nat
  | 0 => 0
  | i + 1 => frStep f i (fr f i)
theorem fr_lt (f : Nat → Bool) : ∀ i, fr f i < 68719476736
  | 0 => by simp [fr]
  | i + 1 => by
    have h := fr_lt f i
    unfold fr frStep
    split
    · refine Nat.or_lt_two_pow (n := 36) h ?_
      exact Nat.pow_lt_pow_right (by omega) (by omega)
    · exact h
theorem pb_all : pb 310 = PN := by decide +kernel
theorem fr_cubes : PN.map (fun p => fr (cubeN p) 36 % 4294967296) = KN := by decide +kernel
theorem fr_squares : (PN.take 8).map (fun p => fr (squareN p) 36 % 4294967296) = BN := by decide +kernel
theorem pb_prefix (k : Nat) : ∀ j, pb k <+: pb (k + j)
  | 0 => List.prefix_refl _
  | j + 1 => by
    refine (pb_prefix k j).trans ?_
    rw [← Nat.add_assoc, pb]
    split
    · exact List.prefix_refl _
    · exact List.prefix_append ..
theorem pb_take (k n : Nat) (hn : (pb k).length = n) (hk : k ≤ 310) : pb k = PN.take n := by
  have h := pb_prefix k (310 - k)
  rw [show k + (310 - k) = 310 by omega, pb_all] at h
  obtain ⟨t, ht⟩ := h
  rw [← ht, ← hn]; simp
theorem pb_short (k : Nat) (h : (pb k).length < 64) : k < 310 := by
  by_cases e : k < 310
  · exact e
  · exfalso
    have h' := (pb_prefix 310 (k - 310)).length_le
    rw [show 310 + (k - 310) = k by omega, pb_all] at h'
    have : PN.length = 64 := by decide +kernel
    omega

theorem sum_abc : sumL [97, 98, 99] = [0xba, 0x78, 0x16, 0xbf, 0x8f, 0x01, 0xcf, 0xea, 0x41, 0x41, 0x40, 0xde, 0x5d, 0xae, 0x22, 0x23, 0xb0, 0x03, 0x61, 0xa3, 0x96, 0x17, 0x7a, 0x9c, 0xb4, 0x10, 0xff, 0x61, 0xf2, 0x00, 0x15, 0xad] := by decide +kernel
theorem g8_take (l : List UInt8) (i n : Nat) (h : i < n) : g8 (l.take n) i = g8 l i := by unfold g8; rw [List.getElem?_take_of_lt h]
theorem be4_take (l : List UInt8) (t : Nat) (h : t < 16) : be4 (l.take 64) t = be4 l t := by
  unfold be4
  rw [g8_take _ _ _ (by omega), g8_take _ _ _ (by omega), g8_take _ _ _ (by omega), g8_take _ _ _ (by omega)]
theorem ws_take (l : List UInt8) : ∀ t, ws (l.take 64) t = ws l t
  | 0 => rfl
  | t + 1 => by
    rw [ws, ws, ws_take l t, wt, wt]
    split
    · rename_i h; rw [be4_take l t h]
    · rfl
theorem blockS_take (s : St) (l : List UInt8) : blockS s (l.take 64) = blockS s l := by unfold blockS; rw [ws_take]
theorem be8_length (n : Nat) : (be8 n).length = 8 := by simp [be8]
theorem pad_length (b : List UInt8) : (pad b).length = b.length + 1 + (120 - (b.length + 1) % 64) % 64 + 8 := by simp [pad, be8_length]; omega
theorem pad_mod (b : List UInt8) : (pad b).length % 64 = 0 := by rw [pad_length]; omega
theorem be8_take (n k : Nat) (h : k < 8) : (be8 n).take (k + 1) = (be8 n).take k ++ [UInt8.ofNat (n / 2 ^ (56 - 8 * k))] := by
  rw [List.take_succ_eq_append_getElem (by rw [be8_length]; exact h)]
  simp [be8]
theorem outB_length (s : St) : (outB s).length = 32 := by simp [outB]
theorem outB_get (s : St) (i j : Nat) (hi : i < 8) (hj : j < 4) : (outB s)[4 * i + j]? = some (UInt8.ofNat ((gw s.list i).toNat / 2 ^ (24 - 8 * j))) := by
  unfold outB
  rw [List.getElem?_map, List.getElem?_range (by omega)]
  simp only [Option.map_some]
  rw [show (4 * i + j) / 4 = i by omega, show (4 * i + j) % 4 = j by omega]
/-- bytes that are filled up to m, noughts behind -/
def partB (L : List UInt8) (m : Nat) : List UInt8 := L.take m ++ List.replicate (L.length - m) 0
theorem partB_length (L : List UInt8) (m : Nat) (h : m ≤ L.length) : (partB L m).length = L.length := by simp [partB]; omega
theorem partB_zero (L : List UInt8) : partB L 0 = List.replicate L.length 0 := by simp [partB]
theorem partB_all (L : List UInt8) : partB L L.length = L := by simp [partB]
theorem partB_set (L : List UInt8) (m : Nat) (x : UInt8) (h : L[m]? = some x) : (partB L m).set m x = partB L (m + 1) := by
  obtain ⟨hm, e⟩ := List.getElem?_eq_some_iff.1 h
  unfold partB
  rw [List.set_append_right _ _ (by simp; omega)]
  have e1 : L.length - m = (L.length - (m + 1)) + 1 := by omega
  have e2 : m - (L.take m).length = 0 := by simp; omega
  rw [e1, e2, List.replicate_succ, List.set_cons_zero, List.take_succ_eq_append_getElem hm, List.append_assoc, e]
  rfl
end Go.Proofs.Ytkipnhhdlohnfaa

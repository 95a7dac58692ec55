/- What a text of digits comes to: plain. -/
import Derived.Test.YtkipnhhdlohnfaaDgG
import Derived.Test.YtkipnhhdlohnfaaDgJ
set_option linter.unusedVariables false
set_option linter.unusedSimpArgs false
namespace Go.Proofs.Ytkipnhhdlohnfaa
open Go Go.RowKit Go.Shelf

/-- the digit at i -/
def dg (l : List UInt8) (i : Nat) : Nat := digN (gb l i)
/-- byte j behind i digits -/
def hpv (l : List UInt8) (i j : Nat) : Nat := if 2 * j + 2 ≤ i then 16 * dg l (2 * j) + dg l (2 * j + 1) else if 2 * j + 1 ≤ i then dg l (2 * j) else 0
def hp (l : List UInt8) (i : Nat) : List UInt8 := (List.range 32).map fun j => UInt8.ofNat (hpv l i j)
def okL (l : List UInt8) : Bool := decide (l.length = 64) && (List.range 64).all fun i => decide (dg l i < 16)
def parseV (l : List UInt8) : List UInt8 := if okL l = true then hp l 64 else List.replicate 32 0
theorem hp_length (l : List UInt8) (i : Nat) : (hp l i).length = 32 := by simp [hp]
theorem parseV_length (l : List UInt8) : (parseV l).length = 32 := by unfold parseV; split <;> simp [hp]
theorem hp_zero (l : List UInt8) : hp l 0 = List.replicate 32 0 := by
  apply List.ext_getElem
  · simp [hp]
  · intro n h1 h2
    simp only [hp, List.getElem_map, List.getElem_range, List.getElem_replicate, hpv]
    rw [if_neg (by omega), if_neg (by omega)]
    rfl
theorem okL_iff (l : List UInt8) : okL l = true ↔ l.length = 64 ∧ ∀ i, i < 64 → dg l i < 16 := by
  simp [okL]
theorem parseV_ok {l : List UInt8} (h : okL l = true) : parseV l = hp l 64 := by unfold parseV; rw [if_pos h]
theorem parseV_no {l : List UInt8} (h : okL l = false) : parseV l = List.replicate 32 0 := by unfold parseV; rw [h]; rfl
theorem hp_at (l : List UInt8) (i j : Nat) (hj : j < 32) (hv : hpv l i j < 256) : (enc8 (hp l i))[j]? = some (.int .u8 (hpv l i j : Int)) := by
  rw [enc8_get _ _ (by rw [hp_length]; exact hj)]
  unfold gb hp
  rw [List.getElem?_map, List.getElem?_range hj]
  simp only [Option.map_some, Option.getD_some, UInt8.toNat_ofNat']
  rw [Nat.mod_eq_of_lt (by simpa using hv)]
theorem hp_upd (l : List UInt8) (i i' j : Nat) (hj : j < 32) (ho : ∀ k, k < 32 → k ≠ j → hpv l i k = hpv l i' k) (hv : hpv l i' j < 256) :
    (enc8 (hp l i)).set j (.int .u8 (hpv l i' j : Int)) = enc8 (hp l i') := by
  apply List.ext_getElem?
  intro k
  rw [List.getElem?_set]
  by_cases hk : k < 32
  · by_cases e : j = k
    · subst e
      rw [if_pos rfl, hp_at l i' j hj hv]
      simp [enc8_len, hp_length, hj]
    · rw [if_neg e]
      unfold hp enc8
      rw [List.map_map, List.map_map, List.getElem?_map, List.getElem?_map, List.getElem?_range hk]
      simp only [Option.map_some, Function.comp]
      rw [ho k hk (fun h => e h.symm)]
  · rw [List.getElem?_eq_none (by rw [enc8_len, hp_length]; omega)]
    rw [if_neg (by omega), List.getElem?_eq_none (by rw [enc8_len, hp_length]; omega)]
theorem index_digits : ∀ n, n < 256 → Lib.indexByte [48, 49, 50, 51, 52, 53, 54, 55, 56, 57, 97, 98, 99, 100, 101, 102] n.toUInt8 = if digN n < 16 then (digN n : Int) else -1 := by decide +kernel
theorem digN_high (n : Nat) (h : 128 ≤ n) : digN n = 16 := by unfold digN; rw [if_neg (by omega), if_neg (by omega)]
theorem digN_le (n : Nat) : digN n ≤ 16 := by have := digN_lt n; omega

theorem digN_sgn : ∀ n, n < 16 → digN (sgn n).toNat = n := by decide +kernel
theorem gb_show (h : List UInt8) : ∀ j, j < h.length → gb (showL h) (2 * j) = (sgn (gb h j / 16)).toNat ∧ gb (showL h) (2 * j + 1) = (sgn (gb h j % 16)).toNat := by
  induction h with
  | nil => intro j hj; simp at hj
  | cons c h ih =>
    intro j hj
    have hs : showL (c :: h) = sgn (c.toNat / 16) :: sgn (c.toNat % 16) :: showL h := by simp [showL]
    rw [hs]
    cases j with
    | zero => constructor <;> rfl
    | succ j =>
      have := ih j (by simpa using hj)
      constructor
      · have := this.1
        unfold gb at this ⊢
        rw [show 2 * (j + 1) = 2 * j + 1 + 1 by omega]
        simpa using this
      · have := this.2
        unfold gb at this ⊢
        rw [show 2 * (j + 1) + 1 = 2 * j + 1 + 1 + 1 by omega]
        simpa using this
theorem show_ok (h : List UInt8) (hl : h.length = 32) : okL (showL h) = true ∧ parseV (showL h) = h := by
  have hd : ∀ j, j < 32 → dg (showL h) (2 * j) = gb h j / 16 ∧ dg (showL h) (2 * j + 1) = gb h j % 16 := by
    intro j hj
    have hg := gb_show h j (by omega)
    have h256 : gb h j < 256 := by have := gb_lt h j; omega
    unfold dg
    rw [hg.1, hg.2, digN_sgn _ (by omega), digN_sgn _ (by omega)]
    exact ⟨rfl, rfl⟩
  have hok : okL (showL h) = true := by
    rw [okL_iff]
    refine ⟨by rw [showL_length, hl], ?_⟩
    intro i hi
    have h256 : gb h (i / 2) < 256 := by have := gb_lt h (i / 2); omega
    rcases Nat.mod_two_eq_zero_or_one i with e | e
    · have := (hd (i / 2) (by omega)).1
      rw [show 2 * (i / 2) = i by omega] at this
      omega
    · have := (hd (i / 2) (by omega)).2
      rw [show 2 * (i / 2) + 1 = i by omega] at this
      omega
  refine ⟨hok, ?_⟩
  rw [parseV_ok hok]
  apply List.ext_getElem
  · rw [hp_length, hl]
  · intro j h1 h2
    have hj : j < 32 := by rw [hp_length] at h1; exact h1
    have := hd j hj
    simp only [hp, List.getElem_map, List.getElem_range, hpv]
    rw [if_pos (by omega), this.1, this.2]
    have hgb : gb h j = h[j].toNat := by unfold gb; rw [List.getElem?_eq_getElem h2]; rfl
    rw [show 16 * (gb h j / 16) + gb h j % 16 = h[j].toNat by omega]
    exact UInt8.ofNat_toNat
end Go.Proofs.Ytkipnhhdlohnfaa

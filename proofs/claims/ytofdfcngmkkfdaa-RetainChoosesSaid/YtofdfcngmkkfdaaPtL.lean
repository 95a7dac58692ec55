/- Fold of both, Lower. -/
import Derived.RangeFuncNested
import Derived.RangeFuncBound
import Derived.RangeFuncCalls
import Derived.RangeFuncLeaves
import Derived.Shelf.Abstract
import Derived.Shelf.RegionOpen
import Derived.WalkKit
import Derived.OwnWalkIn
import Derived.TacticsInMore
import Derived.LoopNIn
import Derived.LoopIn
import Derived.Outline
import Derived.Lib.Hide
import Derived.Lib.SliceRun
import Derived.IntWalk
import Derived.WalkLawsBesides
import Derived.WalkSpells
import Derived.Laws.BitsAllLaws
import Derived.Lib.ConvBytes
import Derived.Maps.AppendAt
import Derived.Lib.AppendStr
import Derived.Lib.SlBytesConst
import Derived.Laws.AppendOwnNone
import Derived.Laws.OwnMore
import Derived.Laws.BytesArg
import Derived.Deep.RegionHeld3
import Derived.BigQuiet
import Derived.Deep.RegionLaw
import Derived.Deep.QuietTactic
import Derived.Lib.OthersKept
import Derived.Test.YtofdfcngmkkfdaaProg
import Derived.Deep.DeepFit
import Derived.Test.YtofdfcngmkkfdaaPtK
set_option linter.unusedVariables false
set_option linter.unusedSimpArgs false
namespace Go.Proofs.Ytofdfcngmkkfdaa
open Go Go.RowKit Go.Shelf

def lowC (b : UInt8) : UInt8 := UInt8.ofNat (smallN b.toNat)
theorem smallN_lt (c : Nat) (h : c < 256) : smallN c < 256 := by unfold smallN; split <;> omega
theorem lowC_nat (b : UInt8) : (lowC b).toNat = smallN b.toNat := by
  have := smallN_lt b.toNat b.toNat_lt
  unfold lowC
  rw [UInt8.toNat_ofNat']
  exact Nat.mod_eq_of_lt (by omega)
def lowL (l : List UInt8) : List UInt8 := l.map lowC
theorem lowL_len (l : List UInt8) : (lowL l).length = l.length := by simp [lowL]
theorem gb_lowL (l : List UInt8) (j : Nat) (h : j < l.length) : gb (lowL l) j = smallN (gb l j) := by
  unfold gb lowL
  rw [List.getElem?_map, List.getElem?_eq_getElem h]
  simp only [Option.map_some, Option.getD_some, lowC_nat]
def foldL (l : List UInt8) : List UInt8 := if lastB l 64 < 0 then l else l.take ((lastB l 64).toNat + 1) ++ lowL (l.drop ((lastB l 64).toNat + 1))
theorem lastN_at (l : List UInt8) (c : Nat) : ∀ k n : Nat, lastN l c k = n → gb l n = c
  | 0, n, h => by simp [lastN] at h
  | k + 1, n, h => by
    unfold lastN at h
    split at h
    · rename_i hc; have : k = n := by omega
      subst this; exact hc
    · exact lastN_at l c k n h
theorem gb_foldL (l : List UInt8) (n : Nat) (hn : lastB l 64 = n) (hlt : n < l.length) : foldL l = l.take (n + 1) ++ lowL (l.drop (n + 1)) ∧ (foldL l).length = l.length ∧ ∀ j, j < l.length → gb (foldL l) j = if n ≤ j then smallN (gb l j) else gb l j := by
  have e : foldL l = l.take (n + 1) ++ lowL (l.drop (n + 1)) := by unfold foldL; rw [hn, if_neg (by omega), Int.toNat_natCast]
  have h64 : gb l n = 64 := lastN_at l 64 _ n hn
  refine ⟨e, by rw [e]; simp [lowL_len]; omega, fun j hj => ?_⟩
  rw [e]
  by_cases h1 : j < n + 1
  · have e1 : gb (l.take (n + 1) ++ lowL (l.drop (n + 1))) j = gb l j := by
      unfold gb
      rw [List.getElem?_append_left (by simp; omega), List.getElem?_take_of_lt h1]
    rw [e1]
    by_cases h2 : n ≤ j
    · have : j = n := by omega
      subst this
      rw [if_pos h2, h64]; rfl
    · rw [if_neg h2]
  · have hl1 : (l.take (n + 1)).length = n + 1 := by simp; omega
    have e1 : gb (l.take (n + 1) ++ lowL (l.drop (n + 1))) j = gb (lowL (l.drop (n + 1))) (j - (n + 1)) := by
      unfold gb
      rw [List.getElem?_append_right (by omega), hl1]
    rw [e1, gb_lowL _ _ (by simp; omega), gb_drop, if_pos (by omega), show n + 1 + (j - (n + 1)) = j by omega]
theorem gb_list_ext {a b : List UInt8} (hl : a.length = b.length) (h : ∀ j, j < a.length → gb a j = gb b j) : a = b := by
  apply List.ext_getElem hl
  intro i h1 h2
  have := h i h1
  unfold gb at this
  rw [List.getElem?_eq_getElem h1, List.getElem?_eq_getElem h2] at this
  exact UInt8.toNat_inj.1 this

/-- a block of bytes of the call's own: what byte j is, a function tells -/
def FB (w : World) (B len : Nat) (f : Nat → Nat) : Prop := ∀ j, j < len → w.cell? ⟨B, j, none⟩ = some (.int .u8 (f j : Int)) ∧ w.frozen? ⟨B, j, none⟩ = false
theorem FB.congr {w : World} {B len : Nat} {f g : Nat → Nat} (h : FB w B len f) (e : ∀ j, j < len → f j = g j) : FB w B len g := fun j hj => by rw [← e j hj]; exact h j hj
theorem FB.set {w : World} {B len : Nat} {f : Nat → Nat} (h : FB w B len f) (i : Nat) (hi : i < len) (x : Nat) : FB (w.setCell ⟨B, i, none⟩ (.int .u8 (x : Int))) B len (fun j => if j = i then x else f j) := by
  intro j hj
  refine ⟨?_, by rw [World.frozen?_setCell]; exact (h j hj).2⟩
  by_cases e : j = i
  · subst e
    rw [World.cell?_setCell_same w _ _ (h j hj).1]; simp
  · rw [World.cell?_setCell_other w _ _ _ (by intro e2; cases e2; exact e rfl)]
    simp only [if_neg e]
    exact (h j hj).1
theorem FB.sb {w : World} {B len c : Nat} {f : Nat → Nat} {l : List UInt8} (h : FB w B len f) (hl : l.length = len) (hg : ∀ j, j < len → gb l j = f j) (h1 : len ≤ c) (h2 : c ≤ 9223372036854775807) : SB w (.slice (some ⟨B, 0, none⟩) len c) l := by
  refine .inr ⟨_, c, by rw [hl], by omega, h2, fun _ => ⟨B, 0, rfl, fun i hi => ?_⟩⟩
  rw [hl] at hi
  rw [Nat.zero_add, hg i hi]
  exact (h i hi).1
/-- '[]byte(s)' -/
theorem conv_bytes (s : ByteArray) (hm : s.size ≤ maxLen) (w : World) : ∃ c W, (convert 9 80 (.string s)).run Try.prog w = .ok (.slice (some ⟨w.heap.size, 0, none⟩) s.size c) W ∧ FB W w.heap.size s.size (gb (bl s)) ∧ s.size ≤ c ∧ c ≤ 9223372036854775807 ∧ Below w.heap.size w W := by
  refine ⟨_, _, Lib.run_convert_string_bytes w 9 80 5 s Try.underlying9 Try.underlying80 Try.underlying5, fun j hj => ⟨?_, ?_⟩, grownCap_ge _ _ _ _, ?_, ?_⟩
  · rw [Lib.bytesWorld_cell _ _ _ _ hj]
    unfold gb bl
    rw [List.getD]
  · unfold World.frozen?
    rw [Lib.bytesWorld_at_new]
    simp [Lib.bytesCells]
    intro h
    have : s.data.size = s.size := rfl
    omega
  · have := grownCap_le_maxLen w s.size 0 5 hm
    unfold maxLen at this
    exact this
  · refine ⟨?_, ?_, ?_, ?_, fun k hk => Lib.bytesWorld_at_old w 5 s k hk⟩
    · unfold Lib.bytesWorld World.freeze; split <;> rfl
    · unfold Lib.bytesWorld World.freeze; split <;> rfl
    · unfold Lib.bytesWorld World.freeze; split <;> rfl
    · rw [Lib.bytesWorld_size]; omega

theorem if_step (n i j : Nat) (g : Nat → Nat) (hi : n ≤ i) : (if j = i then smallN (g i) else if n ≤ j ∧ j < i then smallN (g j) else g j) = if n ≤ j ∧ j < i + 1 then smallN (g j) else g j := by
  by_cases e : j = i
  · subst e; rw [if_pos rfl, if_pos (by omega)]
  · rw [if_neg e]
    by_cases h : n ≤ j ∧ j < i
    · rw [if_pos h, if_pos (by omega)]
    · rw [if_neg h, if_neg (by omega)]
set_option maxRecDepth 100000 in
set_option maxHeartbeats 4000000 in
/-- **Fold** -/
theorem fold_any (s : ByteArray) (hm : s.size ≤ maxLen) (w : World) :
    Calls Try.prog 36 #[.string s] w fun e w' => e = .returned (St (foldL (bl s))) ∧ Below w.heap.size w w' := by
  have hl : ∀ w, Calls Try.prog 52 #[.string s, .int .u8 64] w fun e w' => e = .returned (.int .i64 (lastB (bl s) 64)) ∧ w' = w := fun w => lastIx s 64 hm w
  obtain ⟨c, W, hconv, hfb, hc1, hc2, hB⟩ := conv_bytes s hm w
  unfold maxLen at hm
  have hbd := lastB_bound (bl s) 64
  rw [bl_len] at hbd
  obtain ⟨a, ha⟩ : ∃ a, lastB (bl s) 64 = a := ⟨_, rfl⟩
  rw [ha] at hbd
  simp only [ha] at hl
  have HL := Lib.hid hl
  have HF := Lib.hid hfb
  have HB := Lib.hid hB
  clear hl hfb hB
  by_cases h : a < 0
  · have e : foldL (bl s) = bl s := by unfold foldL; rw [ha, if_pos h]
    rw [e, St_bl]
    have d : decide (a < 0) = true := decide_eq_true h
    clear e ha
    go_enter Try.func36, Try.ntmps36
    go_wp2_with fail
    refine (HL.out _).mono ?_
    rintro e w' ⟨rfl, rfl⟩
    go_wp2
    go_ret
    exact ⟨rfl, HB.out⟩
  · obtain ⟨n, rfl⟩ := Int.eq_ofNat_of_zero_le (show 0 ≤ a by omega)
    obtain ⟨-, hfl, hfg⟩ := gb_foldL (bl s) n ha (by rw [bl_len]; omega)
    rw [bl_len] at hfl hfg
    obtain ⟨L, hL⟩ : ∃ L, foldL (bl s) = L := ⟨_, rfl⟩
    rw [hL] at hfl hfg ⊢
    have HFG := Lib.hid hfg
    have HFL := Lib.hid hfl
    obtain ⟨A, hA⟩ : ∃ A, w.heap.size = A := ⟨_, rfl⟩
    have HA := Lib.hid hA
    rw [hA] at hconv HF HB
    have d : decide ((n : Int) < 0) = false := decide_eq_false h
    obtain ⟨hbd1, hbd2⟩ := hbd
    clear hL ha hfg hfl h hA
    go_enter Try.func36, Try.ntmps36
    go_wp2_with fail
    refine (HL.out _).mono ?_
    rintro e w' ⟨rfl, rfl⟩
    clear hconv
    go_wp2
    go_loopw [5] (fun i wr => ∃ k : Nat, (i = .int .i64 (k : Int) ∧ n ≤ k ∧ k ≤ s.size) ∧ FB wr A s.size (fun j => if n ≤ j ∧ j < k then smallN (gb (bl s) j) else gb (bl s) j) ∧ Below A w wr) (fun i _ => s.size - (intOf i).toNat)
    case atStart => exact ⟨n, ⟨rfl, Nat.le_refl _, by omega⟩, HF.out.congr (fun j hj => by rw [if_neg (by omega)]), HB.out⟩
    case round =>
      clear HF HB
      obtain ⟨k, ⟨rfl, hk1, hk⟩, hfb, hB⟩ := hrel
      by_cases hlt : k < s.size
      · have hck := (hfb k hlt).1
        have hfk := (hfb k hlt).2
        dsimp only at hck
        rw [if_neg (by omega)] at hck
        have hst := (hfb.set k hlt (smallN (gb (bl s) k))).congr (g := fun j => if n ≤ j ∧ j < k + 1 then smallN (gb (bl s) j) else gb (bl s) j) (fun j hj => if_step n k j (gb (bl s)) hk1)
        have hsm := fun w => small_any (gb (bl s) k) (by have := gb_lt (bl s) k; omega) w
        obtain ⟨x, hx⟩ : ∃ x, gb (bl s) k = x := ⟨_, rfl⟩
        rw [hx] at hck hst
        simp only [hx] at hsm
        obtain ⟨y, hy⟩ : ∃ y, smallN x = y := ⟨_, rfl⟩
        simp only [hy] at hsm
        rw [hy] at hst
        have HS := Lib.hid hsm
        have HT := Lib.hid hst
        have HB2 := Lib.hid (hB.setCell (p := ⟨A, k, none⟩) (Nat.le_refl _) (.int .u8 (y : Int)))
        have c1 : (0 : Int) ≤ (k : Int) := by omega
        have c2 : (k : Int) < (s.size : Int) := by omega
        have d0 : decide (k < s.size) = true := decide_eq_true hlt
        clear hx hy hst hsm hfb
        go_wp2_with fail
        refine (HS.out _).mono ?_
        rintro e w' ⟨rfl, rfl⟩
        go_wp2
        go_roundw
        case rel => exact ⟨k + 1, ⟨by go_num, by omega, by omega⟩, HT.out, HB2.out⟩
        case measure => simp [intOf]; omega
      · have d0 : decide (k < s.size) = false := decide_eq_false hlt
        have hsb := SB.str (hfb.sb (c := c) HFL.out (fun j hj => by
          rw [HFG.out j hj]
          by_cases e : n ≤ j
          · rw [if_pos e, if_pos (by omega)]
          · rw [if_neg e, if_neg (by omega)]) hc1 hc2)
        have HBB := Lib.hid hB
        clear hfb hB
        go_wp2
        go_ret
        exact ⟨rfl, by rw [HA.out]; exact HBB.out⟩
set_option maxRecDepth 100000 in
set_option maxHeartbeats 4000000 in
/-- **Lower** -/
theorem lower_any (s : ByteArray) (hm : s.size ≤ maxLen) (w : World) :
    Calls Try.prog 65 #[.string s] w fun e w' => e = .returned (St (lowL (bl s))) ∧ Below w.heap.size w w' := by
  obtain ⟨c, W, hconv, hfb, hc1, hc2, hB⟩ := conv_bytes s hm w
  unfold maxLen at hm
  have HF := Lib.hid hfb
  have HB := Lib.hid hB
  clear hfb hB
  have hfg : ∀ j, j < s.size → gb (lowL (bl s)) j = smallN (gb (bl s) j) := fun j hj => gb_lowL _ _ (by rw [bl_len]; exact hj)
  have hfl : (lowL (bl s)).length = s.size := by rw [lowL_len, bl_len]
  obtain ⟨L, hL⟩ : ∃ L, lowL (bl s) = L := ⟨_, rfl⟩
  simp only [hL] at hfl hfg
  rw [hL]
  have HFG := Lib.hid hfg
  have HFL := Lib.hid hfl
  obtain ⟨A, hA⟩ : ∃ A, w.heap.size = A := ⟨_, rfl⟩
  have HA := Lib.hid hA
  rw [hA] at hconv HF HB
  clear hL hfg hfl hA
  go_enter Try.func65, Try.ntmps65
  go_wp2
  clear hconv
  go_loopw [10, 4, 5] (fun i x y wr => ∃ k : Nat, (i = .int .i64 (k : Int) ∧ k ≤ s.size) ∧ FB wr A s.size (fun j => if 0 ≤ j ∧ j < k then smallN (gb (bl s) j) else gb (bl s) j) ∧ Below A w wr) (fun i _ _ _ => s.size - (intOf i).toNat)
  case atStart => exact ⟨0, ⟨rfl, Nat.zero_le _⟩, HF.out.congr (fun j hj => by rw [if_neg (by omega)]), HB.out⟩
  case round =>
    clear HF HB
    obtain ⟨k, ⟨rfl, hk⟩, hfb, hB⟩ := hrel
    by_cases hlt : k < s.size
    · have hck := (hfb k hlt).1
      have hfk := (hfb k hlt).2
      dsimp only at hck
      rw [if_neg (by omega)] at hck
      have hst := (hfb.set k hlt (smallN (gb (bl s) k))).congr (g := fun j => if 0 ≤ j ∧ j < k + 1 then smallN (gb (bl s) j) else gb (bl s) j) (fun j hj => if_step 0 k j (gb (bl s)) (Nat.zero_le _))
      have hsame := hfb.congr (g := fun j => if 0 ≤ j ∧ j < k + 1 then (if j = k then gb (bl s) k else smallN (gb (bl s) j)) else gb (bl s) j) (fun j hj => by
        by_cases e : j = k
        · subst e; rw [if_neg (by omega), if_pos (by omega), if_pos rfl]
        · by_cases h : 0 ≤ j ∧ j < k
          · rw [if_pos h, if_pos (by omega), if_neg e]
          · rw [if_neg h, if_neg (by omega)])
      have hx256 : gb (bl s) k < 256 := by have := gb_lt (bl s) k; omega
      obtain ⟨x, hx⟩ : ∃ x, gb (bl s) k = x := ⟨_, rfl⟩
      have HX := Lib.hid hx
      rw [hx] at hck hst hsame hx256
      have c1 : (0 : Int) ≤ (k : Int) := by omega
      have c2 : (k : Int) < (s.size : Int) := by omega
      have d0 : decide (k < s.size) = true := decide_eq_true hlt
      have HT := Lib.hid hst
      have HSAME := Lib.hid hsame
      have HB1 := Lib.hid hB
      have HB2 := Lib.hid (hB.setCell (p := ⟨A, k, none⟩) (Nat.le_refl _) (.int .u8 ((x : Int) + 32)))
      clear hx hst hsame hfb hB
      rcases (by omega : x < 65 ∨ (65 ≤ x ∧ x ≤ 90) ∨ 91 ≤ x) with hr | hr | hr
      · have e1 : decide (65 ≤ x) = false := decide_eq_false (by omega)
        have e2 : decide ((65 : Int) ≤ (x : Int)) = false := decide_eq_false (by omega)
        have hsx : smallN x = x := by unfold smallN; rw [if_neg (by omega)]
        have HSX := Lib.hid hsx
        clear hsx
        go_wp2
        go_roundw
        case rel => exact ⟨k + 1, ⟨by go_num, by omega⟩, HSAME.out.congr (fun j hj => by
          by_cases h : 0 ≤ j ∧ j < k + 1
          · rw [if_pos h, if_pos h]
            by_cases e : j = k
            · rw [if_pos e, e, HX.out, HSX.out]
            · rw [if_neg e]
          · rw [if_neg h, if_neg h]), HB1.out⟩
        case measure => simp [intOf]; omega
      · have e1 : decide (65 ≤ x) = true := decide_eq_true (by omega)
        have e2 : decide ((65 : Int) ≤ (x : Int)) = true := decide_eq_true (by omega)
        have e3 : decide (x ≤ 90) = true := decide_eq_true (by omega)
        have e4 : decide ((x : Int) ≤ 90) = true := decide_eq_true (by omega)
        have hsx : smallN x = x + 32 := by unfold smallN; rw [if_pos hr]
        have hsx2 : ((x + 32 : Nat) : Int) = (x : Int) + 32 := by omega
        rw [hsx, hsx2] at HT
        have b1 : x ≤ 90 := hr.2
        clear hsx hsx2 hr
        go_wp2
        go_roundw
        case rel => exact ⟨k + 1, ⟨by go_num, by omega⟩, HT.out, HB2.out⟩
        case measure => simp [intOf]; omega
      · have e1 : decide (65 ≤ x) = true := decide_eq_true (by omega)
        have e2 : decide ((65 : Int) ≤ (x : Int)) = true := decide_eq_true (by omega)
        have e3 : decide (x ≤ 90) = false := decide_eq_false (by omega)
        have e4 : decide ((x : Int) ≤ 90) = false := decide_eq_false (by omega)
        have hsx : smallN x = x := by unfold smallN; rw [if_neg (by omega)]
        have HSX := Lib.hid hsx
        clear hsx
        go_wp2
        go_roundw
        case rel => exact ⟨k + 1, ⟨by go_num, by omega⟩, HSAME.out.congr (fun j hj => by
          by_cases h : 0 ≤ j ∧ j < k + 1
          · rw [if_pos h, if_pos h]
            by_cases e : j = k
            · rw [if_pos e, e, HX.out, HSX.out]
            · rw [if_neg e]
          · rw [if_neg h, if_neg h]), HB1.out⟩
        case measure => simp [intOf]; omega
    · have d0 : decide (k < s.size) = false := decide_eq_false hlt
      have hsb := SB.str (hfb.sb (c := c) HFL.out (fun j hj => by rw [HFG.out j hj, if_pos (by omega)]) hc1 hc2)
      have HBB := Lib.hid hB
      clear hfb hB
      go_wp2
      go_ret
      exact ⟨rfl, by rw [HA.out]; exact HBB.out⟩
set_option maxRecDepth 100000 in
set_option maxHeartbeats 4000000 in
/-- **the reference's Fold** -/
theorem rfold_any (s : ByteArray) (hm : s.size ≤ maxLen) (w : World) :
    Calls Try.prog 37 #[.string s] w fun e w' => e = .returned (St (foldL (bl s))) ∧ Below w.heap.size w w' := by
  have hl : ∀ w, Calls Try.prog 55 #[.string s, .int .u8 64] w fun e w' => e = .returned (.int .i64 (lastB (bl s) 64)) ∧ w' = w := fun w => last_any s 64 hm w
  unfold maxLen at hm
  have hbd := lastB_bound (bl s) 64
  rw [bl_len] at hbd
  obtain ⟨a, ha⟩ : ∃ a, lastB (bl s) 64 = a := ⟨_, rfl⟩
  rw [ha] at hbd
  simp only [ha] at hl
  have HL := Lib.hid hl
  clear hl
  by_cases h : a < 0
  · have e : foldL (bl s) = bl s := by unfold foldL; rw [ha, if_pos h]
    rw [e, St_bl]
    have d : decide (a < 0) = true := decide_eq_true h
    clear e ha
    go_enter Try.func37, Try.ntmps37
    go_wp2_with fail
    refine (HL.out _).mono ?_
    rintro e w' ⟨rfl, rfl⟩
    go_wp2
    go_ret
    exact ⟨rfl, Below.refl _ _⟩
  · obtain ⟨n, rfl⟩ := Int.eq_ofNat_of_zero_le (show 0 ≤ a by omega)
    obtain ⟨hfe, -, -⟩ := gb_foldL (bl s) n ha (by rw [bl_len]; omega)
    obtain ⟨q, hq⟩ : ∃ q, s.extract (n + 1) s.size = q := ⟨_, rfl⟩
    obtain ⟨p, hp⟩ : ∃ p, s.extract 0 (n + 1) = p := ⟨_, rfl⟩
    have hqb : (bl s).drop (n + 1) = bl q := by rw [← hq, bl_extract, List.take_of_length_le (by simp [bl_len])]
    have hpb : (bl s).take (n + 1) = bl p := by rw [← hp, bl_extract, List.drop_zero, Nat.sub_zero]
    have hqs : q.size = s.size - (n + 1) := by rw [← hq]; simp only [ByteArray.size_extract]; omega
    have hps : p.size = n + 1 := by rw [← hp]; simp only [ByteArray.size_extract]; omega
    rw [hfe, hqb, hpb]
    have hlo := fun w => lower_any q (by unfold maxLen; omega) w
    obtain ⟨z, hz⟩ : ∃ z : ByteArray, (⟨(lowL (bl q)).toArray⟩ : ByteArray) = z := ⟨_, rfl⟩
    have hzb : lowL (bl q) = bl z := by rw [← hz]; exact (bl_mk _).symm
    have hzs : z.size = q.size := by rw [← bl_len, ← hzb, lowL_len, bl_len]
    rw [hzb, show St (bl p ++ bl z) = .string (p ++ z) from by
      unfold St
      congr 1]
    simp only [hzb, St_bl] at hlo
    have HLO := Lib.hid hlo
    have d : decide ((n : Int) < 0) = false := decide_eq_false h
    have c3 : (0 : Int) ≤ (n : Int) + 1 := by omega
    have c4 : (n : Int) + 1 ≤ (s.size : Int) := by omega
    have c5 : ((n : Int) + 1).toNat = n + 1 := by omega
    have c6 : IntKind.i64.wrap ((n : Int) + 1) = (n : Int) + 1 := IntWalk.i64_in _ (by omega)
    have c7 : ¬ (9223372036854775807 : Int) < ((p.size + z.size : Nat) : Int) := by omega
    have c8 : p.size + z.size ≤ 9223372036854775807 := by omega
    have c9 : (p.size : Int) + (z.size : Int) ≤ 9223372036854775807 := by omega
    have kadd := fun w => run_string_add_sum (P := Try.prog) w p z c8
    have HP := Lib.hid hp
    have HQ := Lib.hid hq
    clear hfe ha h hp hq hqb hpb hz hzb hlo hqs hps hzs
    go_enter Try.func37, Try.ntmps37
    go_wp2_with fail
    refine (HL.out _).mono ?_
    rintro e w' ⟨rfl, rfl⟩
    have hp := HP.out
    have hq := HQ.out
    go_wp2_with fail
    go_region_held3 (fun _ => True) (first | trivial) ((go_at_call 65; refine (HLO.out _).mono ?_; rintro e w1 ⟨rfl, hbw⟩))
    all_goals
      go_wp2
      go_ret
      exact ⟨rfl, by first | exact (Below.refl _ _).drew.trans hbw | exact hbw⟩
end Go.Proofs.Ytofdfcngmkkfdaa

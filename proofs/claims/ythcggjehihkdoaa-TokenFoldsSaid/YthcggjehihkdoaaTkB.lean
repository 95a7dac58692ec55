/- the reference's Term, Lower. -/
import Derived.RangeFuncNested
import Derived.RangeFuncBound
import Derived.RangeFuncCalls
import Derived.RangeFuncLeaves
import Derived.Shelf.Abstract
import Derived.Shelf.RegionOpen
import Derived.WalkKit
import Derived.OwnWalkIn
import Derived.TacticsInMore
import Derived.LoopNIn
import Derived.LoopIn
import Derived.Outline
import Derived.Lib.Hide
import Derived.Lib.SliceRun
import Derived.IntWalk
import Derived.WalkLawsBesides
import Derived.WalkSpells
import Derived.Laws.BitsAllLaws
import Derived.Lib.ConvBytes
import Derived.Maps.AppendAt
import Derived.Lib.AppendStr
import Derived.Lib.SlBytesConst
import Derived.Laws.AppendOwnNone
import Derived.Laws.OwnMore
import Derived.Laws.BytesArg
import Derived.Deep.RegionHeld3
import Derived.BigQuiet
import Derived.Deep.RegionLaw
import Derived.Deep.QuietTactic
import Derived.Lib.OthersKept
import Derived.Test.YthcggjehihkdoaaProg
import Derived.Deep.DeepFit
import Derived.Test.YthcggjehihkdoaaTkA
set_option linter.unusedVariables false
set_option linter.unusedSimpArgs false
namespace Go.Proofs.Ythcggjehihkdoaa
open Go Go.RowKit Go.Shelf

set_option maxHeartbeats 4000000 in
set_option maxRecDepth 100000 in
/-- **the reference's Term** -/
theorem qterm_any (s : ByteArray) (hm : s.size ≤ 1000000) (w : World) :
    Calls Try.prog 29 #[.string s] w fun e w' => e = .returned (.bool (termB (bl s))) ∧ w' = w := by
  obtain ⟨n, hn⟩ : ∃ n, s.size = n := ⟨_, rfl⟩
  have hlen : (bl s).length = n := by rw [bl_len, hn]
  obtain ⟨q, hq⟩ : ∃ q, good (bl s) = q := ⟨_, rfl⟩
  have hte : termB (bl s) = (q && decide (1 ≤ n) && decide (n ≤ 32)) := by
    unfold termB
    rw [hq, hlen]
    congr 2
    cases hb : bl s with
    | nil => rw [hb] at hlen; simp at hlen; subst hlen; rfl
    | cons x t =>
      have : 1 ≤ n := by rw [← hlen, hb]; simp
      simp [this]
  have hq0 : Hid (good ((bl s).drop 0) = q) := hq
  rw [hte]
  have hgl := fun j => gb_lt (bl s) j
  have hst : ∀ k, k < n → good ((bl s).drop k) = (small1 (gb (bl s) k) && good ((bl s).drop (k + 1))) := by
    intro k hk
    rw [List.drop_eq_getElem_cons (by omega)]
    unfold good gb
    rw [List.all_cons, List.getElem?_eq_getElem (by omega)]
    rfl
  have hget : ∀ (k : Nat) (hk : k < s.size), ((s[k]'hk).toNat : Int) = (gb (bl s) k : Int) := fun k hk => by rw [bl_get]
  have HST := Lib.hid hst
  have HN := Lib.hid hn
  have HL := Lib.hid hlen
  clear hte hq hst hlen
  have q0 : (n : Int) ≤ 1000000 := by omega
  subst hn
  go_enter Try.func29, Try.ntmps29
  go_wp2
  go_loopw [3] (fun i wr => ∃ k : Nat, (i = .int .i64 (k : Int) ∧ k ≤ s.size) ∧ Hid (good ((bl s).drop k) = q) ∧ wr = w) (fun i _ => s.size - (intOf i).toNat)
  case atStart => exact ⟨0, ⟨rfl, Nat.zero_le _⟩, hq0, rfl⟩
  case round =>
    clear hq0
    obtain ⟨k, ⟨rfl, hk⟩, hno, rfl⟩ := hrel
    by_cases hlt : k < s.size
    · have h1 := HST.out k hlt
      have hgk := hget k hlt
      have hx := hgl k
      obtain ⟨x, hxe⟩ : ∃ x, gb (bl s) k = x := ⟨_, rfl⟩
      rw [hxe] at h1 hgk hx
      have hnn := hno.out
      rw [h1, small1_iff] at hnn
      have HNN := Lib.hid hnn
      have hl := fun w => part_any x (by omega) w
      have HLT := Lib.hid hl
      obtain ⟨y, hy⟩ : ∃ y, partB x = y := ⟨_, rfl⟩
      rw [hy] at HLT HNN
      have d0 : decide (k < s.size) = true := decide_eq_true hlt
      have k0 : (0 : Int) ≤ (k : Int) := by omega
      have k1 : (k : Int) < (s.size : Int) := by omega
      clear h1 hxe hl hy hno hnn hget hgl
      cases y with
      | false =>
        have hqf : q = false := by rw [← HNN.out]; rfl
        go_wp2_with fail
        refine (HLT.out _).mono ?_
        rintro e w' ⟨rfl, rfl⟩
        go_wp2
        go_ret
        exact ⟨by rw [hqf]; rfl, rfl⟩
      | true =>
        rcases (by omega : x < 65 ∨ (65 ≤ x ∧ x ≤ 90) ∨ 90 < x) with hc | ⟨hc1, hc2⟩ | hc
        · have e1 : decide (65 ≤ x) = false := decide_eq_false (by omega)
          have e2 : decide ((65 : Int) ≤ (x : Int)) = false := decide_eq_false (by omega)
          have hqf : Hid (good ((bl s).drop (k + 1)) = q) := by
            have := HNN.out
            rw [e1] at this
            exact this
          clear hc
          go_wp2_with fail
          refine (HLT.out _).mono ?_
          rintro e w' ⟨rfl, rfl⟩
          go_wp2
          go_roundw
          case rel => exact ⟨k + 1, ⟨by go_num, by omega⟩, hqf, by first | trivial | rfl⟩
          case measure => simp [intOf]; omega
        · have e1 : decide (65 ≤ x) = true := decide_eq_true (by omega)
          have e2 : decide ((65 : Int) ≤ (x : Int)) = true := decide_eq_true (by omega)
          have e3 : decide (x ≤ 90) = true := decide_eq_true (by omega)
          have e4 : decide ((x : Int) ≤ 90) = true := decide_eq_true (by omega)
          have hqf : q = false := by rw [← HNN.out, e1, e3]; rfl
          go_wp2_with fail
          refine (HLT.out _).mono ?_
          rintro e w' ⟨rfl, rfl⟩
          go_wp2
          go_ret
          exact ⟨by rw [hqf]; rfl, rfl⟩
        · have e1 : decide (65 ≤ x) = true := decide_eq_true (by omega)
          have e2 : decide ((65 : Int) ≤ (x : Int)) = true := decide_eq_true (by omega)
          have e3 : decide (x ≤ 90) = false := decide_eq_false (by omega)
          have e4 : decide ((x : Int) ≤ 90) = false := decide_eq_false (by omega)
          have hqf : Hid (good ((bl s).drop (k + 1)) = q) := by
            have := HNN.out
            rw [e1, e3] at this
            exact this
          clear hc
          go_wp2_with fail
          refine (HLT.out _).mono ?_
          rintro e w' ⟨rfl, rfl⟩
          go_wp2
          go_roundw
          case rel => exact ⟨k + 1, ⟨by go_num, by omega⟩, hqf, by first | trivial | rfl⟩
          case measure => simp [intOf]; omega
    · have d0 : decide (k < s.size) = false := decide_eq_false hlt
      have hqt : q = true := by
        rw [← hno.out, List.drop_eq_nil_of_le (by rw [HL.out]; omega)]; rfl
      obtain ⟨b0, hb0⟩ : ∃ b, decide (1 ≤ s.size) = b := ⟨_, rfl⟩
      have hb0' : decide ((1 : Int) ≤ (s.size : Int)) = b0 := by rw [← hb0]; apply Bool.eq_iff_iff.2; simp; omega
      obtain ⟨b1, hb1⟩ : ∃ b, decide (s.size ≤ 32) = b := ⟨_, rfl⟩
      have hb1' : decide ((s.size : Int) ≤ 32) = b1 := by rw [← hb1]; apply Bool.eq_iff_iff.2; simp; omega
      clear hno hgl hget
      cases b0 with
      | true =>
        go_wp2
        go_ret
        exact ⟨by rw [hqt, hb0, hb1]; rfl, rfl⟩
      | false =>
        go_wp2
        go_ret
        exact ⟨by rw [hqt, hb0]; rfl, rfl⟩
def smallN (c : Nat) : Nat := if 65 ≤ c ∧ c ≤ 90 then c + 32 else c
theorem lo8_nat (c : UInt8) : (lo8 c).toNat = smallN c.toNat := by
  unfold lo8 smallN
  split
  · rw [UInt8.toNat_ofNat', Nat.mod_eq_of_lt (by omega)]
  · rfl
theorem lowL_len (l : List UInt8) : (lowL l).length = l.length := by simp [lowL]
theorem gb_lowL (l : List UInt8) (j : Nat) (h : j < l.length) : gb (lowL l) j = smallN (gb l j) := by
  unfold gb lowL
  rw [List.getElem?_map, List.getElem?_eq_getElem h]
  exact lo8_nat _
/-- a block of bytes of the call's own: what byte j is, a function tells -/
def FB (w : World) (B len : Nat) (f : Nat → Nat) : Prop := ∀ j, j < len → w.cell? ⟨B, j, none⟩ = some (.int .u8 (f j : Int)) ∧ w.frozen? ⟨B, j, none⟩ = false
theorem FB.congr {w : World} {B len : Nat} {f g : Nat → Nat} (h : FB w B len f) (e : ∀ j, j < len → f j = g j) : FB w B len g := fun j hj => by rw [← e j hj]; exact h j hj
theorem FB.set {w : World} {B len : Nat} {f : Nat → Nat} (h : FB w B len f) (i : Nat) (hi : i < len) (x : Nat) : FB (w.setCell ⟨B, i, none⟩ (.int .u8 (x : Int))) B len (fun j => if j = i then x else f j) := by
  intro j hj
  refine ⟨?_, by rw [World.frozen?_setCell]; exact (h j hj).2⟩
  by_cases e : j = i
  · subst e
    rw [World.cell?_setCell_same w _ _ (h j hj).1]; simp
  · rw [World.cell?_setCell_other w _ _ _ (by intro e2; cases e2; exact e rfl)]
    simp only [if_neg e]
    exact (h j hj).1
theorem FB.sb {w : World} {B len c : Nat} {f : Nat → Nat} {l : List UInt8} (h : FB w B len f) (hl : l.length = len) (hg : ∀ j, j < len → gb l j = f j) (h1 : len ≤ c) (h2 : c ≤ 9223372036854775807) : SB w (.slice (some ⟨B, 0, none⟩) len c) l := by
  refine .inr ⟨_, c, by rw [hl], by omega, h2, fun _ => ⟨B, 0, rfl, fun i hi => ?_⟩⟩
  rw [hl] at hi
  rw [Nat.zero_add, hg i hi]
  exact (h i hi).1
/-- '[]byte(s)' -/
theorem conv_bytes (s : ByteArray) (hm : s.size ≤ maxLen) (w : World) : ∃ c W, (convert 9 22 (.string s)).run Try.prog w = .ok (.slice (some ⟨w.heap.size, 0, none⟩) s.size c) W ∧ FB W w.heap.size s.size (gb (bl s)) ∧ s.size ≤ c ∧ c ≤ 9223372036854775807 ∧ Below w.heap.size w W := by
  refine ⟨_, _, Lib.run_convert_string_bytes w 9 22 5 s Try.underlying9 Try.underlying22 Try.underlying5, fun j hj => ⟨?_, ?_⟩, grownCap_ge _ _ _ _, ?_, ?_⟩
  · rw [Lib.bytesWorld_cell _ _ _ _ hj]
    unfold gb bl
    rw [List.getD]
  · unfold World.frozen?
    rw [Lib.bytesWorld_at_new]
    simp [Lib.bytesCells]
    intro h
    have : s.data.size = s.size := rfl
    omega
  · have := grownCap_le_maxLen w s.size 0 5 hm
    unfold maxLen at this
    exact this
  · refine ⟨?_, ?_, ?_, ?_, fun k hk => Lib.bytesWorld_at_old w 5 s k hk⟩
    · unfold Lib.bytesWorld World.freeze; split <;> rfl
    · unfold Lib.bytesWorld World.freeze; split <;> rfl
    · unfold Lib.bytesWorld World.freeze; split <;> rfl
    · rw [Lib.bytesWorld_size]; omega

theorem if_step (n i j : Nat) (g : Nat → Nat) (hi : n ≤ i) : (if j = i then smallN (g i) else if n ≤ j ∧ j < i then smallN (g j) else g j) = if n ≤ j ∧ j < i + 1 then smallN (g j) else g j := by
  by_cases e : j = i
  · subst e; rw [if_pos rfl, if_pos (by omega)]
  · rw [if_neg e]
    by_cases h : n ≤ j ∧ j < i
    · rw [if_pos h, if_pos (by omega)]
    · rw [if_neg h, if_neg (by omega)]
set_option maxRecDepth 100000 in
set_option maxHeartbeats 4000000 in
/-- **Lower** -/
theorem lower_any (s : ByteArray) (hm : s.size ≤ maxLen) (w : World) :
    Calls Try.prog 38 #[.string s] w fun e w' => e = .returned (St (lowL (bl s))) ∧ Below w.heap.size w w' := by
  obtain ⟨c, W, hconv, hfb, hc1, hc2, hB⟩ := conv_bytes s hm w
  unfold maxLen at hm
  have HF := Lib.hid hfb
  have HB := Lib.hid hB
  clear hfb hB
  have hfg : ∀ j, j < s.size → gb (lowL (bl s)) j = smallN (gb (bl s) j) := fun j hj => gb_lowL _ _ (by rw [bl_len]; exact hj)
  have hfl : (lowL (bl s)).length = s.size := by rw [lowL_len, bl_len]
  obtain ⟨L, hL⟩ : ∃ L, lowL (bl s) = L := ⟨_, rfl⟩
  simp only [hL] at hfl hfg
  rw [hL]
  have HFG := Lib.hid hfg
  have HFL := Lib.hid hfl
  obtain ⟨A, hA⟩ : ∃ A, w.heap.size = A := ⟨_, rfl⟩
  have HA := Lib.hid hA
  rw [hA] at hconv HF HB
  clear hL hfg hfl hA
  go_enter Try.func38, Try.ntmps38
  go_wp2
  clear hconv
  go_loopw [10, 4, 5] (fun i x y wr => ∃ k : Nat, (i = .int .i64 (k : Int) ∧ k ≤ s.size) ∧ FB wr A s.size (fun j => if 0 ≤ j ∧ j < k then smallN (gb (bl s) j) else gb (bl s) j) ∧ Below A w wr) (fun i _ _ _ => s.size - (intOf i).toNat)
  case atStart => exact ⟨0, ⟨rfl, Nat.zero_le _⟩, HF.out.congr (fun j hj => by rw [if_neg (by omega)]), HB.out⟩
  case round =>
    clear HF HB
    obtain ⟨k, ⟨rfl, hk⟩, hfb, hB⟩ := hrel
    by_cases hlt : k < s.size
    · have hck := (hfb k hlt).1
      have hfk := (hfb k hlt).2
      dsimp only at hck
      rw [if_neg (by omega)] at hck
      have hst := (hfb.set k hlt (smallN (gb (bl s) k))).congr (g := fun j => if 0 ≤ j ∧ j < k + 1 then smallN (gb (bl s) j) else gb (bl s) j) (fun j hj => if_step 0 k j (gb (bl s)) (Nat.zero_le _))
      have hsame := hfb.congr (g := fun j => if 0 ≤ j ∧ j < k + 1 then (if j = k then gb (bl s) k else smallN (gb (bl s) j)) else gb (bl s) j) (fun j hj => by
        by_cases e : j = k
        · subst e; rw [if_neg (by omega), if_pos (by omega), if_pos rfl]
        · by_cases h : 0 ≤ j ∧ j < k
          · rw [if_pos h, if_pos (by omega), if_neg e]
          · rw [if_neg h, if_neg (by omega)])
      have hx256 : gb (bl s) k < 256 := by have := gb_lt (bl s) k; omega
      obtain ⟨x, hx⟩ : ∃ x, gb (bl s) k = x := ⟨_, rfl⟩
      have HX := Lib.hid hx
      rw [hx] at hck hst hsame hx256
      have c1 : (0 : Int) ≤ (k : Int) := by omega
      have c2 : (k : Int) < (s.size : Int) := by omega
      have d0 : decide (k < s.size) = true := decide_eq_true hlt
      have HT := Lib.hid hst
      have HSAME := Lib.hid hsame
      have HB1 := Lib.hid hB
      have HB2 := Lib.hid (hB.setCell (p := ⟨A, k, none⟩) (Nat.le_refl _) (.int .u8 ((x : Int) + 32)))
      clear hx hst hsame hfb hB
      rcases (by omega : x < 65 ∨ (65 ≤ x ∧ x ≤ 90) ∨ 91 ≤ x) with hr | hr | hr
      · have e1 : decide (65 ≤ x) = false := decide_eq_false (by omega)
        have e2 : decide ((65 : Int) ≤ (x : Int)) = false := decide_eq_false (by omega)
        have hsx : smallN x = x := by unfold smallN; rw [if_neg (by omega)]
        have HSX := Lib.hid hsx
        clear hsx
        go_wp2
        go_roundw
        case rel => exact ⟨k + 1, ⟨by go_num, by omega⟩, HSAME.out.congr (fun j hj => by
          by_cases h : 0 ≤ j ∧ j < k + 1
          · rw [if_pos h, if_pos h]
            by_cases e : j = k
            · rw [if_pos e, e, HX.out, HSX.out]
            · rw [if_neg e]
          · rw [if_neg h, if_neg h]), HB1.out⟩
        case measure => simp [intOf]; omega
      · have e1 : decide (65 ≤ x) = true := decide_eq_true (by omega)
        have e2 : decide ((65 : Int) ≤ (x : Int)) = true := decide_eq_true (by omega)
        have e3 : decide (x ≤ 90) = true := decide_eq_true (by omega)
        have e4 : decide ((x : Int) ≤ 90) = true := decide_eq_true (by omega)
        have hsx : smallN x = x + 32 := by unfold smallN; rw [if_pos hr]
        have hsx2 : ((x + 32 : Nat) : Int) = (x : Int) + 32 := by omega
        rw [hsx, hsx2] at HT
        have b1 : x ≤ 90 := hr.2
        clear hsx hsx2 hr
        go_wp2
        go_roundw
        case rel => exact ⟨k + 1, ⟨by go_num, by omega⟩, HT.out, HB2.out⟩
        case measure => simp [intOf]; omega
      · have e1 : decide (65 ≤ x) = true := decide_eq_true (by omega)
        have e2 : decide ((65 : Int) ≤ (x : Int)) = true := decide_eq_true (by omega)
        have e3 : decide (x ≤ 90) = false := decide_eq_false (by omega)
        have e4 : decide ((x : Int) ≤ 90) = false := decide_eq_false (by omega)
        have hsx : smallN x = x := by unfold smallN; rw [if_neg (by omega)]
        have HSX := Lib.hid hsx
        clear hsx
        go_wp2
        go_roundw
        case rel => exact ⟨k + 1, ⟨by go_num, by omega⟩, HSAME.out.congr (fun j hj => by
          by_cases h : 0 ≤ j ∧ j < k + 1
          · rw [if_pos h, if_pos h]
            by_cases e : j = k
            · rw [if_pos e, e, HX.out, HSX.out]
            · rw [if_neg e]
          · rw [if_neg h, if_neg h]), HB1.out⟩
        case measure => simp [intOf]; omega
    · have d0 : decide (k < s.size) = false := decide_eq_false hlt
      have hsb := SB.str (hfb.sb (c := c) HFL.out (fun j hj => by rw [HFG.out j hj, if_pos (by omega)]) hc1 hc2)
      have HBB := Lib.hid hB
      clear hfb hB
      go_wp2
      go_ret
      exact ⟨rfl, by rw [HA.out]; exact HBB.out⟩
end Go.Proofs.Ythcggjehihkdoaa

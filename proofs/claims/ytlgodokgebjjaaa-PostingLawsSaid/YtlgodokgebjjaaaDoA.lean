/- bytes.Index at the end of a line; Whole, Clone, the reference's Whole. -/
import Derived.RangeFuncNested
import Derived.RangeFuncBound
import Derived.RangeFuncCalls
import Derived.RangeFuncLeaves
import Derived.Shelf.Abstract
import Derived.Shelf.RegionOpen
import Derived.WalkKit
import Derived.OwnWalkIn
import Derived.TacticsInMore
import Derived.LoopNIn
import Derived.LoopIn
import Derived.Outline
import Derived.Lib.Hide
import Derived.Lib.SliceRun
import Derived.IntWalk
import Derived.WalkLawsBesides
import Derived.WalkSpells
import Derived.Laws.BitsAllLaws
import Derived.Lib.ConvBytes
import Derived.Maps.AppendAt
import Derived.Lib.AppendStr
import Derived.Lib.SlBytesConst
import Derived.Laws.AppendOwnNone
import Derived.Laws.OwnMore
import Derived.Laws.BytesArg
import Derived.Deep.RegionHeld3
import Derived.BigQuiet
import Derived.Deep.RegionLaw
import Derived.Deep.QuietTactic
import Derived.Lib.OthersKept
import Derived.Test.YtlgodokgebjjaaaProg
import Derived.Deep.DeepFit
import Derived.Lib.SlBytesConst
import Derived.Test.YtlgodokgebjjaaaShelf
import Derived.Test.YtlgodokgebjjaaaDoMath
set_option linter.unusedVariables false
set_option linter.unusedSimpArgs false
namespace Go.Proofs.Ytlgodokgebjjaaa
open Go Go.RowKit Go.Shelf

/-- internal/bytealg.MaxLen holds some number -/
def ML (w : World) : Prop := ∃ m, w.cell? ⟨0, 0, none⟩ = some (.int .i64 m)
theorem ML.below {w w' : World} (h : ML w) (hb : Below w.heap.size w w') : ML w' := by
  obtain ⟨m, hm⟩ := h
  exact ⟨m, (hb.cell (World.block_lt_of_cell? w _ hm)).trans hm⟩
theorem ML.belowN {n : Nat} {w w' : World} (h : ML w) (hb : Below n w w') (hn : 0 < n) : ML w' := by
  obtain ⟨m, hm⟩ := h
  exact ⟨m, (hb.cell (p := ⟨0, 0, none⟩) hn).trans hm⟩
def nums (l : List UInt8) : List Int := l.map fun b => (b.toNat : Int)
theorem nums_len (l : List UInt8) : (nums l).length = l.length := by simp [nums]
theorem nums_range (l : List UInt8) : ∀ x ∈ nums l, 0 ≤ x ∧ x < 256 := by
  intro x hx
  obtain ⟨b, _, rfl⟩ := List.mem_map.1 hx
  have := b.toNat_lt
  omega
theorem nums_of (l : List UInt8) : Lib.bytesOf (nums l) = l := by
  unfold Lib.bytesOf nums
  rw [List.map_map]
  conv => rhs; rw [← List.map_id l]
  exact List.map_congr_left fun b _ => by simp
theorem nums_get (l : List UInt8) (i : Nat) (h : i < l.length) : (nums l).getD i 0 = (gb l i : Int) := by
  rw [List.getD, nums, List.getElem?_map, List.getElem?_eq_getElem h]
  simp [gb, List.getElem?_eq_getElem h]
theorem SB.bytesIn {W : World} {A : Option Addr} {n c : Nat} {l : List UInt8} (h : SB W (.slice A n c) l) : n = l.length ∧ Lib.BytesIn W A n (nums l) := by
  obtain ⟨A', c', e, _, _, h3⟩ := h.form
  cases e
  refine ⟨rfl, fun h0 => ?_⟩
  obtain ⟨g, o, rfl, hc⟩ := h3 h0
  exact ⟨g, o, rfl, fun i hi => by rw [nums_get l i hi]; exact hc i hi⟩
/-- where a line ends -/
def ixL (l : List UInt8) : Int := Lib.index l [13, 10]
/-- **bytes.Index at the end of a line** -/
theorem index_any (A : Option Addr) (c : Nat) (l : List UInt8) (B d : Nat) (w : World) (h : SB w (.slice A l.length c) l) (hlen : l.length ≤ 4000000) (hm : ML w) (he : SB w (.slice (some ⟨B, 0, none⟩) 2 d) [13, 10]) :
    Calls Try.prog 101 #[.slice A l.length c, .slice (some ⟨B, 0, none⟩) 2 d] w fun e w' => e = .returned (.int .i64 (ixL l)) ∧ Below w.heap.size w w' := by
  obtain ⟨m, hm⟩ := hm
  have h2 := he.bytesIn.2
  have hc2 : ∀ i, i < 2 → w.cell? ((⟨B, 0, none⟩ : Addr).add i) = some (.int .u8 ((nums [13, 10]).getD i 0)) := by
    obtain ⟨b, o, e, hc⟩ := h2 (by omega)
    cases e
    intro i hi
    rw [Lib.add_plain']
    exact hc i hi
  have fin : ∀ {e : Ending} {w' : World}, (e = .returned (.int .i64 (Lib.index (Lib.bytesOf (nums l)) (Lib.bytesOf (nums [13, 10])))) ∧ ∃ q, w' = w.drewN q) → e = .returned (.int .i64 (ixL l)) ∧ Below w.heap.size w w' := by
    rintro e w' ⟨rfl, q, rfl⟩
    exact ⟨by rw [nums_of, nums_of]; rfl, below_drewN (Below.refl _ _) _⟩
  obtain ⟨A', c', e, hcap, _, h3⟩ := h.form
  cases e
  cases A with
  | none =>
    rcases h with ⟨e, rfl⟩ | ⟨ad, c'', e, _⟩
    · cases e
      refine (Try.bytes_Index_nil (some ⟨B, 0, none⟩) 2 d w (by omega) (fun h => by omega)).mono ?_
      rintro e w' ⟨rfl, rfl⟩
      exact ⟨rfl, Below.refl _ _⟩
    · cases e
  | some ad =>
    refine (Try.bytes_Index_at ad ⟨B, 0, none⟩ l.length c 2 d (nums l) (nums [13, 10]) m w (nums_len l) (nums_len _) (nums_range l) (nums_range _) (fun i hi => ?_) hc2 hcap (by omega) (by omega) hm).mono fun e w' he => fin he
    obtain ⟨g, o, e, hc⟩ := h3 (by omega)
    cases e
    rw [Lib.add_plain', nums_get l i hi]
    exact hc i hi
/-- '[]byte("\r\n")' -/
theorem SB_end (w : World) (m : Nat × Nat) : SB (w.alloc (.cells #[.int .u8 13, .int .u8 10] 5 m)) (.slice (some ⟨w.heap.size, 0, none⟩) 2 2) [13, 10] := SB_mark w _ [13, 10] 2 m rfl (by simp) rfl

set_option maxRecDepth 100000 in
set_option maxHeartbeats 400000 in
/-- **Whole** -/
theorem whole_any (v : Value) (l : List UInt8) (w : World) (h : SB w v l) :
    Calls Try.prog 102 #[v] w fun e w' => e = .returned (.bool (wholeB l)) ∧ Below w.heap.size w w' := by
  obtain ⟨A, c, rfl, hcap, hcm, -⟩ := h.form
  have kc := fun (w : World) (C : Array Value) (n c : Nat) => Lib.run_convert_bytes_const (P := Try.prog) w 22 5 C n c Try.underlying22 Try.underlying5
  have HS := Lib.hid h
  by_cases h0 : l.length = 0
  · have q : ((l.length : Int) == 0) = true := beq_iff_eq.2 (by omega)
    have hw : wholeB l = true := by unfold wholeB; simp [h0]
    rw [hw]
    clear h
    go_enter Try.func102, Try.ntmps102
    go_wp2
    go_ret
    exact ⟨rfl, Below.refl _ _⟩
  · have q : ((l.length : Int) == 0) = false := beq_eq_false_iff_ne.2 (by omega)
    have hc := fun (W' : World) (hb : Below w.heap.size w W') (B : Nat) (he : SB W' (.slice (some ⟨B, 0, none⟩) 2 2) [13, 10]) => Try.bytes_HasSuffix_all A (some ⟨B, 0, none⟩) l.length c 2 2 (nums l) (nums [13, 10]) W' (nums_len l) rfl hcap (by omega) (h.below hb).bytesIn.2 he.bytesIn.2
    have hw : wholeB l = Lib.hasSuffix (Lib.bytesOf (nums l)) (Lib.bytesOf (nums [13, 10])) := by rw [nums_of, nums_of]; unfold wholeB; simp [h0]
    obtain ⟨L, hL⟩ : ∃ L, l.length = L := ⟨_, rfl⟩
    obtain ⟨b, hb⟩ : ∃ b, wholeB l = b := ⟨_, rfl⟩
    rw [hb] at hw ⊢
    simp only [← hw] at hc
    rw [hL] at q hcap ⊢
    simp only [hL] at hc
    have HC := Lib.hid hc
    clear h hc hw hb hL h0
    go_enter Try.func102, Try.ntmps102
    go_wp2_with fail
    refine (HC.out _ ((Below.refl _ w).alloc (Nat.le_refl _) _) _ (SB_end _ _)).mono ?_
    rintro e w1 ⟨rfl, rfl⟩
    go_wp2
    go_ret
    exact ⟨by simp, (Below.refl _ w).alloc (Nat.le_refl _) _⟩

theorem SB.cellAt {W : World} {A : Option Addr} {n c : Nat} {l : List UInt8} (h : SB W (.slice A n c) l) (i : Nat) (hi : i < l.length) : ∃ g o, A = some ⟨g, o, none⟩ ∧ W.cell? ⟨g, o + i, none⟩ = some (.int .u8 (gb l i)) := by
  obtain ⟨A', c', e, _, _, h3⟩ := h.form
  cases e
  obtain ⟨g, o, rfl, hc⟩ := h3 (by omega)
  exact ⟨g, o, rfl, hc i hi⟩
set_option maxRecDepth 100000 in
set_option maxHeartbeats 400000 in
/-- **the reference's Whole** -/
theorem qwhole_any (v : Value) (l : List UInt8) (w : World) (h : SB w v l) :
    Calls Try.prog 76 #[v] w fun e w' => e = .returned (.bool (wholeB l)) ∧ w = w' := by
  obtain ⟨A, c, rfl, hcap, hcm, h3⟩ := h.form
  rw [wholeB_num]
  by_cases h2 : 2 ≤ l.length
  · obtain ⟨g, o, rfl, hc⟩ := h3 (by omega)
    have c0 := hc (l.length - 2) (by omega)
    have c1 := hc (l.length - 1) (by omega)
    obtain ⟨x, hx⟩ : ∃ x, gb l (l.length - 2) = x := ⟨_, rfl⟩
    obtain ⟨y, hy⟩ : ∃ x, gb l (l.length - 1) = x := ⟨_, rfl⟩
    rw [hx] at c0 ⊢
    rw [hy] at c1 ⊢
    obtain ⟨L, hL⟩ : ∃ L, l.length = L := ⟨_, rfl⟩
    rw [hL] at h2 hcap c0 c1 ⊢
    obtain ⟨i0, hi0⟩ : ∃ i, L - 2 = i := ⟨_, rfl⟩
    obtain ⟨i1, hi1⟩ : ∃ i, L - 1 = i := ⟨_, rfl⟩
    rw [hi0] at c0
    rw [hi1] at c1
    have w0 : IntKind.i64.wrap ((L : Int) - 2) = (i0 : Int) := by rw [IntWalk.i64_in _ (by omega)]; omega
    have w1 : IntKind.i64.wrap ((L : Int) - 1) = (i1 : Int) := by rw [IntWalk.i64_in _ (by omega)]; omega
    have l0 : (i0 : Int) < (L : Int) := by omega
    have l1 : (i1 : Int) < (L : Int) := by omega
    have q0 : ((L : Int) == 0) = false := by simp; omega
    have q1 : decide ((2 : Int) ≤ (L : Int)) = true := by simp; omega
    have q1' : decide (2 ≤ L) = true := by simp; omega
    rw [decide_eq_false (show ¬ L = 0 by omega), q1', Bool.false_or, Bool.true_and]
    have e0 : ((x : Int) == 13) = decide (x = 13) := by by_cases h : x = 13 <;> simp [h]; omega
    have e1 : ((y : Int) == 10) = decide (y = 10) := by by_cases h : y = 10 <;> simp [h]; omega
    obtain ⟨b0, hb0⟩ : ∃ b, decide (x = 13) = b := ⟨_, rfl⟩
    obtain ⟨b1, hb1⟩ : ∃ b, decide (y = 10) = b := ⟨_, rfl⟩
    rw [hb0] at e0 ⊢
    rw [hb1] at e1 ⊢
    clear h h3 hc hL hi0 hi1 hb0 hb1 hx hy
    cases b0 with
    | true =>
      go_enter Try.func76, Try.ntmps76
      go_wp2
      go_ret
      exact ⟨by simp, rfl⟩
    | false =>
      go_enter Try.func76, Try.ntmps76
      go_wp2
      go_ret
      exact ⟨by simp, rfl⟩
  · obtain ⟨L, hL⟩ : ∃ L, l.length = L := ⟨_, rfl⟩
    rw [hL] at h2 hcap ⊢
    rw [decide_eq_false h2, Bool.false_and, Bool.or_false]
    clear h h3
    by_cases h0 : L = 0
    · subst h0
      go_enter Try.func76, Try.ntmps76
      go_wp2
      go_ret
      exact ⟨rfl, rfl⟩
    · obtain rfl : L = 1 := by omega
      go_enter Try.func76, Try.ntmps76
      go_wp2
      go_ret
      exact ⟨rfl, rfl⟩
set_option maxRecDepth 100000 in
set_option maxHeartbeats 400000 in
/-- **slices.Clone** -/
theorem clone_any (v : Value) (l : List UInt8) (w : World) (hlen : l.length ≤ 100000000) (h : SB w v l) :
    Calls Try.prog 50 #[v] w fun e w' => ∃ v', e = .returned v' ∧ OB w' w.heap.size v' l ∧ Below w.heap.size w w' := by
  have h' := Lib.hid h
  have hnil := fun (A : Option Addr) (n c : Nat) (w : World) => Lib.run_eql_slice_nil (P := Try.prog) w 22 5 A n c 0 0 Try.underlying22
  rcases h with ⟨rfl, rfl⟩ | ⟨ad, c, rfl, h1, h2, h3⟩
  · go_enter Try.func50, Try.ntmps50
    go_wp2
    go_ret
    exact ⟨_, rfl, World.ownsRow_nil _ _ _ _, Below.refl _ _⟩
  · clear h3
    go_enter Try.func50, Try.ntmps50
    have hB := (Below.refl w.heap.size w).alloc (Nat.le_refl _) (.cells #[] 5)
    have hO : OB (w.alloc (.cells #[] 5)) w.heap.size (.slice (some ⟨w.heap.size, 0, none⟩) 0 0) [] := OB_lit w #[] [] (by simp) rfl
    go_wp2_with (at_builtin; refine wpB_append rfl _ _ rfl w.heap.size _ _ [] l rfl hO rfl (h'.out.below hB) (by simp; omega) hB.size ?_)
    intro v1 w1 hown1 _ hB1
    go_wp2
    go_ret
    exact ⟨_, rfl, by simpa using hown1, hB.trans hB1⟩
end Go.Proofs.Ytlgodokgebjjaaa

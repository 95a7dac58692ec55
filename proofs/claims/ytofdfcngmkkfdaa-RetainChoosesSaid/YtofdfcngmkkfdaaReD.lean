/- lower; the map of names; Check. -/
import Derived.RangeFuncNested
import Derived.RangeFuncBound
import Derived.RangeFuncCalls
import Derived.RangeFuncLeaves
import Derived.Shelf.Abstract
import Derived.Shelf.RegionOpen
import Derived.WalkKit
import Derived.OwnWalkIn
import Derived.TacticsInMore
import Derived.LoopNIn
import Derived.LoopIn
import Derived.Outline
import Derived.Lib.Hide
import Derived.Lib.SliceRun
import Derived.IntWalk
import Derived.WalkLawsBesides
import Derived.WalkSpells
import Derived.Laws.BitsAllLaws
import Derived.Lib.ConvBytes
import Derived.Maps.AppendAt
import Derived.Lib.AppendStr
import Derived.Lib.SlBytesConst
import Derived.Laws.AppendOwnNone
import Derived.Laws.OwnMore
import Derived.Laws.BytesArg
import Derived.Deep.RegionHeld3
import Derived.BigQuiet
import Derived.Deep.RegionLaw
import Derived.Deep.QuietTactic
import Derived.Lib.OthersKept
import Derived.Test.YtofdfcngmkkfdaaProg
import Derived.Deep.DeepFit
import Derived.Maps.OwnOps
import Derived.Maps.Views
import Derived.StringKeys
import Derived.Test.YtofdfcngmkkfdaaReC
set_option linter.unusedVariables false
set_option linter.unusedSimpArgs false
namespace Go.Proofs.Ytofdfcngmkkfdaa
open Go Go.RowKit Go.Shelf Go.Maps Go.WideAt Go.WideMaps

def notUp (c : Nat) : Bool := !decide (65 ≤ c ∧ c ≤ 90)
theorem lowL_self (l : List UInt8) : (lowL l == l) = ofN notUp l := by
  rw [Bool.eq_iff_iff, beq_iff_eq]
  unfold ofN
  rw [List.all_eq_true]
  constructor
  · intro h b hb
    obtain ⟨i, hi⟩ := List.mem_iff_getElem?.1 hb
    have h2 := congrArg (fun x => x[i]?) h
    simp only [lowL, List.getElem?_map, hi, Option.map_some, Option.some.injEq] at h2
    have h3 := lowC_nat b
    rw [h2] at h3
    unfold notUp
    simp only [Bool.not_eq_true', decide_eq_false_iff_not]
    rcases smallN_cases b.toNat with ⟨h4, h5, h6⟩ | ⟨h4, -⟩
    · omega
    · exact h4
  · intro h
    unfold lowL
    conv => rhs; rw [← List.map_id l]
    apply List.map_congr_left
    intro b hb
    have := h b hb
    unfold notUp at this
    simp only [Bool.not_eq_true', decide_eq_false_iff_not] at this
    rw [id, ← UInt8.toNat_inj, lowC_nat]
    rcases smallN_cases b.toNat with ⟨h4, h5, h6⟩ | ⟨-, h5⟩
    · exact absurd ⟨h4, h5⟩ this
    · exact h5
theorem dom_ascii {l : List UInt8} (h : domB l = true) : ∀ j, j < l.length → gb l j < 128 := by
  intro j hj
  unfold domB at h
  simp only [Bool.and_eq_true] at h
  have hm : l[j] ∈ l := List.getElem_mem hj
  have hg : gb l j = (l[j]).toNat := by unfold gb; rw [List.getElem?_eq_getElem hj]; rfl
  rw [hg]
  rcases mem_sp _ _ hm with e | ⟨x, hx, hc⟩
  · rw [e]; decide
  · have := List.all_eq_true.1 h.1 x hx
    unfold labelB at this
    simp only [Bool.and_eq_true] at this
    have := ofN_mem this.2 hc
    simp only [Bool.or_eq_true, beq_iff_eq, wordN, decide_eq_true_eq] at this
    omega
set_option maxRecDepth 100000 in
set_option maxHeartbeats 4000000 in
/-- **lower** -/
theorem lower13_any (s : ByteArray) (hm : s.size ≤ maxLen) (ha : ∀ j, j < s.size → gb (bl s) j < 128) (w : World) :
    Calls Try.prog 63 #[.string s] w fun e w' => e = .returned (.bool (ofN notUp (bl s))) ∧ Below w.heap.size w w' := by
  unfold maxLen at hm
  obtain ⟨r, hr⟩ : ∃ r, ofN notUp (bl s) = r := ⟨_, rfl⟩
  have HR := Lib.hid hr
  have HASC := Lib.hid ha
  rw [hr]
  clear hr ha
  obtain ⟨B, hB⟩ : ∃ B, w.heap.size = B := ⟨_, rfl⟩
  have i2 : (w.iter s 0).heap[B]? = some (.stringIter s 0) := by rw [← hB]; exact World.iter_heap w s 0
  have hb : Below B w (w.iter s 0) := (Below.refl B w).alloc (by omega) (.stringIter s 0)
  have I2 := Lib.hid i2
  have HB := Lib.hid hb
  clear i2 hb
  go_enter Try.func63, Try.ntmps63
  go_wp2_with fail
  go_loopw [] (fun wx => ∃ i : Nat, (i ≤ s.size ∧ ofN notUp ((bl s).take i) = true) ∧ wx.heap[B]? = some (.stringIter s i) ∧ Below B w wx) (fun wx => s.size - wx.iterPos B)
  case atStart => exact ⟨0, ⟨by omega, rfl⟩, I2.out, HB.out⟩
  case round =>
    obtain ⟨i, ⟨hi, hl⟩, hit, hb⟩ := hrel
    have HM := Lib.hid (iter_pos wr B s i hit)
    have HL := Lib.hid hl
    clear I2 HB hl
    by_cases hlt : i < s.size
    · have hg := bl_get s i hlt
      have h128 := HASC.out i hlt
      have hsn := ofN_snoc notUp (bl s) i (by rw [bl_len]; exact hlt)
      have hno := ofN_not notUp (bl s) i (by rw [bl_len]; exact hlt)
      obtain ⟨c, hcc⟩ : ∃ c, gb (bl s) i = c := ⟨_, rfl⟩
      rw [hcc] at hg hsn hno h128
      rw [HL.out, Bool.true_and] at hsn
      have HSN := Lib.hid hsn
      have HNO := Lib.hid hno
      obtain ⟨w1, hw1, hnx⟩ : ∃ (w1 : World), w1 = wr.iterAt B s (i + 1) ∧ (∀ ty, (Instr.next (.pointer (some ⟨B, 0, none⟩)) true ty).run Try.prog wr = .ok (.tuple #[.bool true, .int .i64 (i : Int), .int .i32 (c : Int)]) w1) :=
        ⟨_, rfl, fun ty => by rw [← hg]; exact Lib.run_next_ascii_at wr B s i ty hit hlt (by omega)⟩
      have qb : Below B w w1 := by rw [hw1]; exact Lib.below_iterAt hb (by omega) s (i + 1)
      have qi : w1.heap[B]? = some (.stringIter s (i + 1)) := by rw [hw1]; exact Lib.iterAt_heap wr B s i (i + 1) hit
      have HQB := Lib.hid qb
      have HQI := Lib.hid qi
      clear hsn hno hcc hw1 hb hit qb qi
      rcases (by omega : c < 65 ∨ (65 ≤ c ∧ c ≤ 90) ∨ 90 < c) with h | h | h
      · have e1 : decide (65 ≤ c) = false := decide_eq_false (by omega)
        have e2 : decide ((65 : Int) ≤ (c : Int)) = false := decide_eq_false (by omega)
        have hnu : notUp c = true := by unfold notUp; rw [decide_eq_false (by omega)]; rfl
        have HNU := Lib.hid hnu
        clear hnu
        go_wp2
        go_roundw
        case rel => exact ⟨i + 1, ⟨by omega, by rw [HSN.out]; exact HNU.out⟩, HQI.out, HQB.out⟩
        case measure =>
          have hm := HM.out
          have hm2 := iter_pos _ _ _ _ HQI.out
          omega
      · have e1 : decide (65 ≤ c) = true := decide_eq_true (by omega)
        have e2 : decide ((65 : Int) ≤ (c : Int)) = true := decide_eq_true (by omega)
        have e3 : decide (c ≤ 90) = true := decide_eq_true (by omega)
        have e4 : decide ((c : Int) ≤ 90) = true := decide_eq_true (by omega)
        have hf : r = false := by rw [← HR.out, HNO.out (by unfold notUp; rw [decide_eq_true h]; rfl)]
        subst hf
        go_wp2
        go_ret
        exact ⟨rfl, by first | exact HQB.out | (rw [hB]; exact HQB.out)⟩
      · have e1 : decide (65 ≤ c) = true := decide_eq_true (by omega)
        have e2 : decide ((65 : Int) ≤ (c : Int)) = true := decide_eq_true (by omega)
        have e3 : decide (c ≤ 90) = false := decide_eq_false (by omega)
        have e4 : decide ((c : Int) ≤ 90) = false := decide_eq_false (by omega)
        have hnu : notUp c = true := by unfold notUp; rw [decide_eq_false (by omega)]; rfl
        have HNU := Lib.hid hnu
        clear hnu
        go_wp2
        go_roundw
        case rel => exact ⟨i + 1, ⟨by omega, by rw [HSN.out]; exact HNU.out⟩, HQI.out, HQB.out⟩
        case measure =>
          have hm := HM.out
          have hm2 := iter_pos _ _ _ _ HQI.out
          omega
    · have hnx : ∀ ty, (Instr.next (.pointer (some ⟨B, 0, none⟩)) true ty).run Try.prog wr = .ok (.tuple #[.bool false]) wr := fun ty => Lib.run_next_end_at wr B s i ty hit (by omega)
      have hall := ofN_all notUp (bl s) i HL.out (by rw [bl_len]; omega)
      have hf : r = true := by rw [← HR.out, hall]
      subst hf
      have HQB := Lib.hid hb
      clear hall hit hb
      go_wp2
      go_ret
      exact ⟨rfl, by first | exact HQB.out | (rw [hB]; exact HQB.out)⟩

/-! the map of names -/
theorem keyS : Maps.Keyed Try.prog 9 := Maps.string_keyed Try.underlying9
theorem zeroI (w : World) : (zeroValue 3).run Try.prog w = .ok (.int .i64 0) w := by kernel_rfl
def cntN (cs : List Cl) (s : ByteArray) : Nat := (cs.filter fun c => c.1.toList == s.toList).length
theorem cntN_snoc (cs : List Cl) (c : Cl) (s : ByteArray) : cntN (cs ++ [c]) s = cntN cs s + if (c.1.toList == s.toList) = true then 1 else 0 := by
  unfold cntN
  rw [List.filter_append]
  by_cases h : (c.1.toList == s.toList) = true
  · rw [if_pos h]; simp [h]
  · rw [if_neg h]; simp [h]
theorem cntN_zero (cs : List Cl) (s : ByteArray) : cntN cs s = 0 ↔ findC cs s = none := by
  unfold cntN findC
  rw [List.length_eq_zero_iff, List.filter_eq_nil_iff, List.find?_eq_none]
theorem cntN_le (cs : List Cl) (s : ByteArray) : cntN cs s ≤ cs.length := List.length_filter_le _ _
/-- block B is the map that counts these names -/
def SM (W : World) (B : Nat) (cs : List Cl) : Prop := ∃ D : DataW Unit, W.ownsMap Try.prog 9 (plainElem Try.prog 3) B cs.length D ∧ ∀ s : ByteArray, D.atKey (.string (bl s)) (.lit (.int .i64 0)) = .lit (.int .i64 (cntN cs s : Int))
theorem SM.new (w : World) : SM (w.alloc (.map #[] 0)) w.heap.size [] := ⟨.map [], World.ownsMap_made _ _ _ _, fun s => rfl⟩
theorem SM.kept {w w' : World} {row : Option Nat} {B : Nat} {cs : List Cl} (h : SM w B cs) (hg : w.grownBy w' row) (hne : some B ≠ row) : SM w' B cs := by
  obtain ⟨D, h1, h2⟩ := h; exact ⟨D, h1.kept hg hne, h2⟩
theorem SM.alloc {w : World} {B : Nat} {cs : List Cl} (h : SM w B cs) (o : Obj) : SM (w.alloc o) B cs := by
  obtain ⟨D, h1, h2⟩ := h; exact ⟨D, h1.alloc o, h2⟩
theorem SM.lt {w : World} {B : Nat} {cs : List Cl} (h : SM w B cs) : B < w.heap.size := by
  obtain ⟨D, ⟨es, clock, hb, _⟩, _⟩ := h; exact (Array.getElem?_eq_some_iff.1 hb).1
theorem SM.below {w w' : World} {n B : Nat} {cs : List Cl} (h : SM w B cs) (hb : Below n w w') (hn : B < n) : SM w' B cs := by
  obtain ⟨D, ⟨es, clock, h1, h2⟩, h3⟩ := h
  exact ⟨D, ⟨es, clock, (hb.block B hn).trans h1, h2⟩, h3⟩
theorem SM.look {w : World} {B : Nat} {cs : List Cl} (h : SM w B cs) (s : ByteArray) (hs : s.size ≤ maxLen) : (Instr.lookup 76 (.map (some B)) (.string s) false).run Try.prog w = .ok (.int .i64 (cntN cs s : Int)) w := by
  obtain ⟨D, h1, h2⟩ := h
  obtain ⟨c, hrun, hat, -⟩ := h1.lookup_int keyS Try.underlying76 Try.underlying3 (zeroI w) (keyOf_string_mk Try.underlying9 hs)
  have e := h2 s
  unfold bl at e
  rw [hat] at e
  cases e
  exact hrun
theorem SM.put {w : World} {B : Nat} {cs : List Cl} (h : SM w B cs) (c : Cl) (hs : c.1.size ≤ maxLen) (hn : cs.length ≤ 1000) :
    ∃ w', (Instr.mapUpdate 76 (.map (some B)) (.string c.1) (.int .i64 ((cntN cs c.1 : Int) + 1))).run Try.prog w = .ok () w' ∧ SM w' B (cs ++ [c]) ∧ w.grownBy w' (some B) := by
  obtain ⟨D, h1, h2⟩ := h
  have hle := cntN_le cs c.1
  obtain ⟨w', hrun, h3, h4⟩ := h1.update keyS Try.underlying76 (by unfold maxLen; omega) (keyOf_string_mk Try.underlying9 hs) (plainElem_int Try.underlying3 (a := (cntN cs c.1 : Int) + 1) (by
    simp only [Lit.wf, IntKind.min, IntKind.max, IntKind.signed, IntKind.bits]
    simp; omega))
  refine ⟨w', hrun, ⟨_, by rw [List.length_append]; exact h3, fun s => ?_⟩, h4⟩
  obtain ⟨es, clock, hb, _, _, hD⟩ := h1
  rw [cntN_snoc]
  by_cases e : (c.1.toList == s.toList) = true
  · have e2 : bl c.1 = bl s := by rw [← toList_bl, ← toList_bl]; simpa using e
    rw [if_pos e]
    have e3 : c.1 = s := bl_ext e2
    subst e3
    have := Maps.atKey_put_same (D := D) (k := .string (bl c.1)) (by rw [hD]; exact ⟨_, rfl⟩) (by trivial) (.lit (.int .i64 ((cntN cs c.1 : Int) + 1))) (.lit (.int .i64 0))
    exact this
  · have e2 : bl s ≠ bl c.1 := fun h => e (by rw [toList_bl, toList_bl, h]; exact beq_self_eq_true _)
    rw [if_neg e, Nat.add_zero]
    have := Maps.atKey_put_other (D := D) (k := .string (bl c.1)) (k' := .string (bl s)) (fun h => e2 (by injection h)) (.lit (.int .i64 ((cntN cs c.1 : Int) + 1))) (.lit (.int .i64 0))
    rw [← h2 s]
    exact this
end Go.Proofs.Ytofdfcngmkkfdaa

/- Domain. -/
import Derived.RangeFuncNested
import Derived.RangeFuncBound
import Derived.RangeFuncCalls
import Derived.RangeFuncLeaves
import Derived.Shelf.Abstract
import Derived.Shelf.RegionOpen
import Derived.WalkKit
import Derived.OwnWalkIn
import Derived.TacticsInMore
import Derived.LoopNIn
import Derived.LoopIn
import Derived.Outline
import Derived.Lib.Hide
import Derived.Lib.SliceRun
import Derived.IntWalk
import Derived.WalkLawsBesides
import Derived.WalkSpells
import Derived.Laws.BitsAllLaws
import Derived.Lib.ConvBytes
import Derived.Maps.AppendAt
import Derived.Lib.AppendStr
import Derived.Lib.SlBytesConst
import Derived.Laws.AppendOwnNone
import Derived.Laws.OwnMore
import Derived.Laws.BytesArg
import Derived.Deep.RegionHeld3
import Derived.BigQuiet
import Derived.Deep.RegionLaw
import Derived.Deep.QuietTactic
import Derived.Lib.OthersKept
import Derived.Test.YtlgodokgebjjaaaProg
import Derived.Deep.DeepFit
import Derived.Test.YtlgodokgebjjaaaPtD
set_option linter.unusedVariables false
set_option linter.unusedSimpArgs false
namespace Go.Proofs.Ytlgodokgebjjaaa
open Go Go.RowKit Go.Shelf
attribute [local go_sem] Oper.semAt_some

theorem all_take_snoc {α : Type} (p : α → Bool) (l : List α) (k : Nat) (x : α) (h : l[k]? = some x) : (l.take (k + 1)).all p = ((l.take k).all p && p x) := by
  have hk : k < l.length := (List.getElem?_eq_some_iff.1 h).1
  rw [List.take_succ_eq_append_getElem hk, List.all_append]
  rw [List.getElem?_eq_getElem hk] at h
  cases h
  simp
theorem all_not {α : Type} (p : α → Bool) (l : List α) (k : Nat) (x : α) (h : l[k]? = some x) (hp : p x = false) : l.all p = false := by
  rw [List.all_eq_false]
  exact ⟨x, List.mem_of_getElem? h, by simp [hp]⟩

set_option maxRecDepth 100000 in
set_option maxHeartbeats 4000000 in
/-- **Domain** -/
theorem domain_any (s : ByteArray) (hm : s.size ≤ maxLen) (w : World) :
    Calls Try.prog 39 #[.string s] w fun e w' => e = .returned (.bool (domB (bl s))) ∧ Below w.heap.size w w' := by
  have hdom : domB (bl s) = ((sp (bl s)).all labelB && decide (s.size ≤ 255)) := by unfold domB; rw [bl_len]
  have HD := Lib.hid hdom
  obtain ⟨r, hr⟩ : ∃ r, domB (bl s) = r := ⟨_, rfl⟩
  rw [hr] at HD ⊢
  clear hdom hr
  refine (callsIn_wide (n := 0)).1 ?_
  refine callsIn_of_wp_marks Try.func39 rfl trivial ?_
  simp only [Try.ntmps39, List.size_toArray, List.length_cons, List.length_nil, Nat.reduceAdd, Nat.reduceSub, Array.replicate_succ, Array.replicate_zero, List.push_toArray, List.append_toArray, List.nil_append, List.cons_append]
  gi_wp2_with fail
  refine ⟨trivial, rfl, (callsIn_wide.2 (between_any _ _)).mono ?_⟩
  rintro e w1 ⟨rfl, rfl⟩
  gi_wp2_with fail
  have hb0 := Boxed.new w 4 (.bool false)
  have hb1 := Boxed.new (w.alloc (.cells #[.bool false] 4)) 9 (.string s)
  rw [World.size_alloc] at hb1
  have hB0 : Below w.heap.size w ((w.alloc (.cells #[.bool false] 4)).alloc (.cells #[.string s] 9)) := ((Below.refl _ w).alloc (Nat.le_refl _) _).alloc (by simp) _
  refine wpIn_rangeFunc_D (gf := 96) (lb := #[.pointer (some ⟨w.heap.size + 1, 0, none⟩)]) (n₀ := w.heap.size) rfl (enters_of Try.func96 (by kernel_rfl) rfl)
    (between1_seq w.heap.size (w.heap.size + 1) s hm w _ rfl hB0 (by omega) hb1) (fun x az _ _ h => by obtain ⟨a, rfl, _⟩ := h; rfl) (fun _ _ _ _ _ _ _ _ _ h _ _ => h) (by simp; omega) (Below.refl _ _)
    (fun b => b = w.heap.size) (fun b h => by subst h; simp; omega) (fun b h => by subst h; exact ⟨by omega, by simp, rfl⟩)
    (fun k D W => (∃ b, Boxed W w.heap.size 4 (.bool b)) ∧ D w.heap.size ∧ Below w.heap.size w W ∧ w.heap.size ≤ W.heap.size ∧ ((sp (bl s)).take k).all labelB = true)
    (fun c k D W => c = .ret ∧ Boxed W w.heap.size 4 (.bool false) ∧ D w.heap.size ∧ Below w.heap.size w W ∧ w.heap.size ≤ W.heap.size ∧ r = false) ?stable ?stable2 ⟨⟨_, hb0.alloc _⟩, rfl, hB0, by simp; omega, rfl⟩
    (fun az => { tmps := #[.string s, undef, .pointer (some ⟨w.heap.size, 0, none⟩), az[0]?.getD undef, .string s, .func (.func 96) #[] #[.pointer (some ⟨w.heap.size + 1, 0, none⟩)], az[0]?.getD undef, undef, undef, undef, undef, undef, undef], defers := [] }) ?assign ?body ?done ?stop
  case stable =>
    rintro k D W W' ⟨⟨b, hb⟩, hD, hB, hs, ha⟩ hk
    exact ⟨⟨b, boxed_keepOn hb hk (.inr hD)⟩, hD, hB.trans (hk.below hs), Nat.le_trans hs hk.size, ha⟩
  case stable2 =>
    rintro c k D W W' ⟨rfl, hb, hD, hB, hs, ha⟩ hk
    exact ⟨rfl, boxed_keepOn hb hk (.inr hD), hD, hB.trans (hk.below hs), Nat.le_trans hs hk.size, ha⟩
  case assign =>
    rintro lp x az M W K ⟨a, rfl, hx, ha⟩ hK
    gi_wp2
    exact hK
  case body =>
    rintro lp k x az D M W hx ⟨a, rfl, hxa, ham⟩ ⟨⟨b, hb⟩, hD, hB, hs, ha⟩ hDb hMD
    have hc := hb.cell
    have hf := hb.frozen
    subst hxa
    have hsn := all_take_snoc labelB _ k _ hx
    have hno := all_not labelB _ k _ hx
    rw [ha, Bool.true_and] at hsn
    have HSN := Lib.hid hsn
    have HNO := Lib.hid hno
    have HM := Lib.hid hMD
    have HDb := Lib.hid hDb
    have hl := fun w => label_any a ham w
    obtain ⟨q, hq⟩ : ∃ q, labelB (bl a) = q := ⟨_, rfl⟩
    simp only [hq] at hl HSN HNO
    have HL := Lib.hid hl
    clear hsn hno hx ha hMD hDb hl hq
    gi_wp2_with fail
    refine ⟨trivial, rfl, (callsIn_wide.2 (HL.out _)).mono ?_⟩
    rintro e w1 ⟨rfl, rfl⟩
    cases q with
    | true =>
      gi_wp2
      exact ⟨D, fun b h => ⟨HDb.out b h, fun hm => (HM.out b hm).2 h⟩, KeepOn.refl _ _ _, ⟨_, hb⟩, hD, hB, hs, HSN.out⟩
    | false =>
      gi_wp2
      exact ⟨D, fun b h => ⟨Nat.lt_of_lt_of_le (HDb.out b h) (KeepsWalks.setCell w1 _ _).size, fun hm => (HM.out b hm).2 h⟩, KeepOn.setCell w1 _ _ (Nat.le_refl _) (fun h => (HM.out _ h).2 hD), rfl, hb.set _, hD, hB.setCell (p := ⟨w.heap.size, 0, none⟩) (Nat.le_refl _) _, Nat.le_trans hs (KeepsWalks.setCell w1 _ _).size, by rw [HD.out, HNO.out (by simp), Bool.false_and]⟩
  case done =>
    rintro dk D W hdk ⟨⟨b, hb⟩, hD, hB, hs, ha⟩ hK hDk
    rw [List.take_length] at ha
    have hd : r = decide (s.size ≤ 255) := by rw [HD.out, ha, Bool.true_and]
    have hdk2 : w.heap.size + 2 ≤ dk := by simp at hdk; omega
    have hc := hb.cell
    have hf := hb.frozen
    have hdi : decide ((s.size : Int) ≤ 255) = decide (s.size ≤ 255) := by simp; omega
    have HR := Lib.hid hd
    clear hd ha hdk
    obtain ⟨q, hq⟩ : ∃ q, decide (s.size ≤ 255) = q := ⟨_, rfl⟩
    rw [hq] at hdi HR
    have hK2 : (W.setCell ⟨w.heap.size, 0, none⟩ (.bool q)).heap[dk]? = some (.deferred (some [])) := (Below.heap_setCell W ⟨w.heap.size, 0, none⟩ (.bool q) dk (by simp; omega)).trans hK
    gi_wp2
    refine ⟨by simp, .inl ⟨_, _, rfl, run_takeDeferred hK2, ?_⟩⟩
    refine ⟨_, results_cellB rfl _ rfl (b := q) ?_, by rw [HR.out], ?_⟩
    · exact (World.putObj_heap_other (by omega)).trans (hb.set _)
    · exact (hB.setCell (p := ⟨w.heap.size, 0, none⟩) (Nat.le_refl _) _).trans (belowK_b (w := w) (Nat.le_refl _) _ dk _ _ (by omega) hK2 rfl rfl)
  case stop =>
    rintro dk c k D W hdk ⟨rfl, hb, hD, hB, hs, hr⟩ hK hDk
    subst hr
    have hdk2 : w.heap.size + 2 ≤ dk := by simp at hdk; omega
    gi_wp2
    refine ⟨by simp, .inl ⟨_, _, rfl, run_takeDeferred hK, ?_⟩⟩
    refine ⟨_, results_cellB rfl _ rfl (b := false) ?_, rfl, ?_⟩
    · exact (World.putObj_heap_other (by omega)).trans hb
    · exact hB.trans (belowK_b (w := w) (Nat.le_refl _) W dk _ _ (by omega) hK rfl rfl)
end Go.Proofs.Ytlgodokgebjjaaa

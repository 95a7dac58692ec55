/- The reference's parts. -/
import Derived.RangeFuncNested
import Derived.RangeFuncBound
import Derived.RangeFuncCalls
import Derived.RangeFuncLeaves
import Derived.Shelf.Abstract
import Derived.Shelf.RegionOpen
import Derived.WalkKit
import Derived.OwnWalkIn
import Derived.TacticsInMore
import Derived.LoopNIn
import Derived.LoopIn
import Derived.Outline
import Derived.Lib.Hide
import Derived.Lib.SliceRun
import Derived.IntWalk
import Derived.WalkLawsBesides
import Derived.WalkSpells
import Derived.Laws.BitsAllLaws
import Derived.Lib.ConvBytes
import Derived.Maps.AppendAt
import Derived.Lib.AppendStr
import Derived.Lib.SlBytesConst
import Derived.Laws.AppendOwnNone
import Derived.Laws.OwnMore
import Derived.Laws.BytesArg
import Derived.Deep.RegionHeld3
import Derived.BigQuiet
import Derived.Deep.RegionLaw
import Derived.Deep.QuietTactic
import Derived.Lib.OthersKept
import Derived.Test.YtlgodokgebjjaaaProg
import Derived.Deep.DeepFit
import Derived.Test.YtlgodokgebjjaaaPtB
set_option linter.unusedVariables false
set_option linter.unusedSimpArgs false
namespace Go.Proofs.Ytlgodokgebjjaaa
open Go Go.RowKit Go.Shelf

theorem infoS : (Try.prog.info? 9).map (fun i => (i.zero, i.size, i.bytes)) = some (some (.string ⟨#[]⟩), 1, 16) := by kernel_rfl
/-- texts as values -/
def SV (ls : List (List UInt8)) : List Value := ls.map fun l => .string ⟨l.toArray⟩
theorem SV_len (ls : List (List UInt8)) : (SV ls).length = ls.length := by simp [SV]
theorem SV_snoc (ls : List (List UInt8)) (l : List UInt8) : SV (ls ++ [l]) = SV ls ++ [.string ⟨l.toArray⟩] := by simp [SV]
structure PartsI (l : List UInt8) (at_ i : Nat) (out : List (List UInt8)) : Prop where
  go : i ≤ l.length → at_ ≤ i ∧ sp l = out ++ sp (l.drop at_) ∧ ∀ j, at_ ≤ j → j < i → gb l j ≠ 46
  fin : i = l.length + 1 → out = sp l
theorem gb_ne {l : List UInt8} {j : Nat} (hj : j < l.length) (h : gb l j ≠ 46) : l[j]? ≠ some 46 := by
  intro e; apply h; unfold gb; rw [e]; rfl
theorem gb_eq {l : List UInt8} {j : Nat} (hj : j < l.length) (h : gb l j = 46) : l[j]? = some 46 := by
  unfold gb at h
  rw [List.getElem?_eq_getElem hj] at h ⊢
  simp only [Option.getD_some] at h
  congr 1
  exact UInt8.toNat_inj.1 h
theorem not_mem_seg {l : List UInt8} {a i : Nat} (hi : i ≤ l.length) (h : ∀ j, a ≤ j → j < i → gb l j ≠ 46) : (46 : UInt8) ∉ (l.drop a).take (i - a) := by
  intro hm
  obtain ⟨k, hk⟩ := List.mem_iff_getElem?.1 hm
  have hk2 : k < ((l.drop a).take (i - a)).length := (List.getElem?_eq_some_iff.1 hk).1
  have hk3 : k < i - a := by simp at hk2; omega
  rw [List.getElem?_take_of_lt hk3, List.getElem?_drop] at hk
  exact gb_ne (by omega) (h (a + k) (by omega) (by omega)) hk
theorem PartsI.next {l : List UInt8} {a i : Nat} {out : List (List UInt8)} (h : PartsI l a i out) (hi : i < l.length) (hg : gb l i ≠ 46) : PartsI l a (i + 1) out := by
  obtain ⟨h1, h2, h3⟩ := h.go (by omega)
  refine ⟨fun _ => ⟨by omega, h2, fun j hj hj2 => ?_⟩, fun e => by omega⟩
  by_cases e : j = i
  · rw [e]; exact hg
  · exact h3 j hj (by omega)
theorem PartsI.point {l : List UInt8} {a i : Nat} {out : List (List UInt8)} (h : PartsI l a i out) (hi : i < l.length) (hg : gb l i = 46) : PartsI l (i + 1) (i + 1) (out ++ [(l.drop a).take (i - a)]) := by
  obtain ⟨h1, h2, h3⟩ := h.go (by omega)
  refine ⟨fun _ => ⟨by omega, ?_, fun j hj hj2 => by omega⟩, fun e => by omega⟩
  have e : l.drop a = (l.drop a).take (i - a) ++ 46 :: l.drop (i + 1) := by
    conv => lhs; rw [← List.take_append_drop (i - a) (l.drop a)]
    congr 1
    rw [List.drop_drop, show a + (i - a) = i by omega, List.drop_eq_getElem_cons hi]
    congr 1
    have := gb_eq hi hg
    rw [List.getElem?_eq_getElem hi] at this
    exact Option.some.inj this
  rw [h2]
  conv => lhs; rw [e, sp_some _ _ (not_mem_seg (by omega) h3)]
  simp
theorem PartsI.last {l : List UInt8} {a i : Nat} {out : List (List UInt8)} (h : PartsI l a i out) (hi : i = l.length) : PartsI l (i + 1) (i + 1) (out ++ [(l.drop a).take (i - a)]) := by
  obtain ⟨h1, h2, h3⟩ := h.go (by omega)
  refine ⟨fun hh => by omega, fun _ => ?_⟩
  have e : (l.drop a).take (i - a) = l.drop a := List.take_of_length_le (by simp; omega)
  rw [h2, e]
  congr 1
  have := not_mem_seg (by omega) h3
  rw [e] at this
  exact (sp_none _ this).symm
theorem PartsI.len {l : List UInt8} {a i : Nat} {out : List (List UInt8)} (h : PartsI l a i out) (hi : i ≤ l.length) : out.length ≤ l.length := by
  obtain ⟨h1, h2, h3⟩ := h.go (by omega)
  have e1 := congrArg List.length h2
  have e2 := sp_len l
  have e3 := List.length_pos_iff.2 (sp_ne (l.drop a))
  rw [List.length_append] at e1
  omega

set_option maxRecDepth 100000 in
set_option maxHeartbeats 4000000 in
/-- **parts** -/
theorem parts_any (s : ByteArray) (hm : s.size ≤ 1000) (w : World) :
    Calls Try.prog 72 #[.string s] w fun e w' => ∃ v, e = .returned v ∧ OV w' w.heap.size 9 v (SV (sp (bl s))) ∧ Below w.heap.size w w' := by
  obtain ⟨i0, hi, hz0, hz1, hz2⟩ := info_parts infoS
  go_enter Try.func72, Try.ntmps72
  go_wp2
  go_loopw [3, 4, 5] (fun v a i wr => ∃ (k b : Nat) (out : List (List UInt8)), (i = .int .i64 (k : Int) ∧ a = .int .i64 (b : Int) ∧ k ≤ s.size + 1 ∧ b ≤ s.size + 1) ∧ Hid (PartsI (bl s) b k out) ∧ wr.ownsRow w.heap.size 9 1 v out.length (SV out) ∧ Below w.heap.size w wr) (fun _ _ i _ => s.size + 1 - (intOf i).toNat)
  case atStart => exact ⟨0, 0, [], ⟨rfl, rfl, by omega, by omega⟩, ⟨fun _ => ⟨Nat.le_refl _, by simp, fun j h1 h2 => by omega⟩, fun e => by simp at e⟩, World.ownsRow_nil _ _ _ _, Below.refl _ _⟩
  case round =>
    obtain ⟨k, b, out, ⟨rfl, rfl, hk, hb⟩, hp, hrow, hB⟩ := hrel
    by_cases hlt : k ≤ s.size
    · have hol := hp.out.len (by rw [bl_len]; exact hlt)
      rw [bl_len] at hol
      have hbk := (hp.out.go (by rw [bl_len]; exact hlt)).1
      have d0 : decide ((k : Int) ≤ (s.size : Int)) = true := by simp; omega
      have d0' : decide (k ≤ s.size) = true := by simpa using hlt
      have c1 : (0 : Int) ≤ (b : Int) := by omega
      have c2 : (b : Int) ≤ (k : Int) := by omega
      have c3 : (k : Int) ≤ (s.size : Int) := by omega
      have hpart : (⟨(((bl s).drop b).take (k - b)).toArray⟩ : ByteArray) = s.extract b k := by rw [← bl_extract, mk_bl]
      have HPART := Lib.hid hpart
      clear hpart
      by_cases hend : k = s.size
      · have d1 : (k == s.size) = true := by simpa using hend
        have d2 : ((k : Int) == (s.size : Int)) = true := by simp; omega
        have hnx := hp.out.last (by rw [bl_len]; exact hend)
        have HN := Lib.hid hnx
        clear hend hnx hp
        go_wp2_with (at_builtin; refine wpList_append_own _ rfl _ _ 47 rfl w.heap.size 9 i0 (.string ⟨#[]⟩) 1 16 Try.underlying47 hi hz0 hz1 hz2 rfl (by decide) _ _ _ rfl (hrow.alloc _) ⟨wr.heap.size, 0, none⟩ 1 1 [.string (s.extract b k)] rfl rfl (cell_one_new _ _ _) (by simp [Value.oneCell']) (by unfold maxLen; omega) (by omega) (by have := hB.size; simp; omega) ?_; intro v' w2 hown' hgrow _)
        have hB2 : Below w.heap.size w w2 := (hB.alloc hB.size _).grown hgrow (by have := hB.size; simp; omega) (fun j hj => (hrow.lt j hj).1)
        go_roundw
        case rel => exact ⟨k + 1, k + 1, out ++ [((bl s).drop b).take (k - b)], ⟨by go_num, by go_num, by omega, by omega⟩, HN.out, by rw [SV_snoc, HPART.out, List.length_append]; exact hown', hB2⟩
        case measure => simp [intOf]; omega
      · have d1 : (k == s.size) = false := by simpa using hend
        have d2 : ((k : Int) == (s.size : Int)) = false := by simp; omega
        have hks : k < s.size := by omega
        have hg := bl_get s k hks
        by_cases h46 : gb (bl s) k = 46
        · rw [h46] at hg
          have hnx := hp.out.point (by rw [bl_len]; exact hks) h46
          have HN := Lib.hid hnx
          clear hend hnx hp h46
          go_wp2_with (at_builtin; refine wpList_append_own _ rfl _ _ 47 rfl w.heap.size 9 i0 (.string ⟨#[]⟩) 1 16 Try.underlying47 hi hz0 hz1 hz2 rfl (by decide) _ _ _ rfl (hrow.alloc _) ⟨wr.heap.size, 0, none⟩ 1 1 [.string (s.extract b k)] rfl rfl (cell_one_new _ _ _) (by simp [Value.oneCell']) (by unfold maxLen; omega) (by omega) (by have := hB.size; simp; omega) ?_; intro v' w2 hown' hgrow _)
          have hB2 : Below w.heap.size w w2 := (hB.alloc hB.size _).grown hgrow (by have := hB.size; simp; omega) (fun j hj => (hrow.lt j hj).1)
          go_roundw
          case rel => exact ⟨k + 1, k + 1, out ++ [((bl s).drop b).take (k - b)], ⟨by go_num, by go_num, by omega, by omega⟩, HN.out, by rw [SV_snoc, HPART.out, List.length_append]; exact hown', hB2⟩
          case measure => simp [intOf]; omega
        · have hnx := hp.out.next (by rw [bl_len]; exact hks) h46
          have HN := Lib.hid hnx
          obtain ⟨c, hc⟩ : ∃ c, gb (bl s) k = c := ⟨_, rfl⟩
          rw [hc] at hg h46
          have d3 : (c == 46) = false := by simpa using h46
          have d4 : ((c : Int) == 46) = false := by simp; omega
          clear hend hnx hp h46 hc
          go_wp2
          go_roundw
          case rel => exact ⟨k + 1, b, out, ⟨by go_num, rfl, by omega, by omega⟩, HN.out, hrow, hB⟩
          case measure => simp [intOf]; omega
    · have d0 : decide ((k : Int) ≤ (s.size : Int)) = false := by simp; omega
      have d0' : decide (k ≤ s.size) = false := by simpa using hlt
      have hfin := hp.out.fin (by rw [bl_len]; omega)
      have HF := Lib.hid hfin
      clear hp hfin
      go_wp2
      go_ret
      exact ⟨_, rfl, by unfold OV; rw [← HF.out, SV_len]; exact hrow, hB⟩
end Go.Proofs.Ytlgodokgebjjaaa

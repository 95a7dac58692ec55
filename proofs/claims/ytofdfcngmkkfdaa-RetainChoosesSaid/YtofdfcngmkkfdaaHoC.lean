/- hold: Covers. -/
import Derived.RangeFuncNested
import Derived.RangeFuncBound
import Derived.RangeFuncCalls
import Derived.RangeFuncLeaves
import Derived.Shelf.Abstract
import Derived.Shelf.RegionOpen
import Derived.WalkKit
import Derived.OwnWalkIn
import Derived.TacticsInMore
import Derived.LoopNIn
import Derived.LoopIn
import Derived.Outline
import Derived.Lib.Hide
import Derived.Lib.SliceRun
import Derived.IntWalk
import Derived.WalkLawsBesides
import Derived.WalkSpells
import Derived.Laws.BitsAllLaws
import Derived.Lib.ConvBytes
import Derived.Maps.AppendAt
import Derived.Lib.AppendStr
import Derived.Lib.SlBytesConst
import Derived.Laws.AppendOwnNone
import Derived.Laws.OwnMore
import Derived.Laws.BytesArg
import Derived.Deep.RegionHeld3
import Derived.BigQuiet
import Derived.Deep.RegionLaw
import Derived.Deep.QuietTactic
import Derived.Lib.OthersKept
import Derived.Test.YtofdfcngmkkfdaaProg
import Derived.Deep.DeepFit
import Derived.Test.YtofdfcngmkkfdaaHoB
set_option linter.unusedVariables false
set_option linter.unusedSimpArgs false
namespace Go.Proofs.Ytofdfcngmkkfdaa
open Go Go.RowKit Go.Shelf

theorem cell_belowN {W W' : World} {n b o : Nat} {v : Value} (h : W.cell? ⟨b, o, none⟩ = some v) (hb : Below n W W') (hn : b < n) : W'.cell? ⟨b, o, none⟩ = some v := (hb.cell (p := ⟨b, o, none⟩) hn).trans h
theorem cell_below {W W' : World} {b o : Nat} {v : Value} (h : W.cell? ⟨b, o, none⟩ = some v) (hb : Below W.heap.size W W') : W'.cell? ⟨b, o, none⟩ = some v :=
  (hb.cell (p := ⟨b, o, none⟩) (World.block_lt_of_cell? W _ h)).trans h
theorem TV.at_ {W : World} {A : Option Addr} {n c : Nat} {hs : List ByteArray} (h : TV W (.slice A n c) hs) (k : Nat) (hk : k < hs.length) : ∃ g o, A = some ⟨g, o, none⟩ ∧ W.cell? ⟨g, o + k, none⟩ = some (.string hs[k]) := by
  obtain ⟨A', c', e', -, hcell⟩ := h
  cases e'
  obtain ⟨g, o, rfl, cc⟩ := hcell k (by rw [List.length_map]; exact hk)
  rw [List.getElem?_map, List.getElem?_eq_getElem hk] at cc
  exact ⟨g, o, rfl, cc⟩
/-- what Fold answers -/
def fo (s : ByteArray) : ByteArray := ⟨(foldL (bl s)).toArray⟩
theorem fo_any (s : ByteArray) (hm : s.size ≤ maxLen) (w : World) : Calls Try.prog 36 #[.string s] w fun e w' => e = .returned (.string (fo s)) ∧ Below w.heap.size w w' := fold_any s hm w
theorem rfo_any (s : ByteArray) (hm : s.size ≤ maxLen) (w : World) : Calls Try.prog 37 #[.string s] w fun e w' => e = .returned (.string (fo s)) ∧ Below w.heap.size w w' := rfold_any s hm w
set_option maxRecDepth 100000 in
/-- same -/
theorem same_any (s who : ByteArray) (hm : s.size ≤ maxLen) (B : Nat) (w : World) (hB : Boxed w B 9 (.string who)) :
    Calls Try.prog 73 #[.string s, .pointer (some ⟨B, 0, none⟩)] w fun e w' => e = .returned (.bool ((fo s).toList == who.toList)) ∧ Below w.heap.size w w' := by
  have hf := fun w => fo_any s hm w
  have HF := Lib.hid hf
  have hc := hB.cell
  obtain ⟨f, hfo⟩ : ∃ f, fo s = f := ⟨_, rfl⟩
  rw [hfo] at HF ⊢
  obtain ⟨r, hr⟩ : ∃ r, (f.toList == who.toList) = r := ⟨_, rfl⟩
  rw [hr]
  clear hf hB hfo
  go_enter Try.func73, Try.ntmps73
  go_wp2_with fail
  go_region_held3 (fun w' => w'.cell? ⟨B, 0, none⟩ = some (.string who)) (first | exact hc | exact cell_below (by assumption) (by assumption) | go_keep) ((go_at_call 36; refine (HF.out _).mono ?_; rintro e w1 ⟨rfl, hbw⟩))
  all_goals
    go_wp2
    go_ret
    exact ⟨rfl, by first | exact (Below.refl _ _).drew.trans hbw | exact hbw⟩
set_option maxRecDepth 100000 in
set_option maxHeartbeats 4000000 in
/-- **first, of texts, at whatever test** -/
theorem firstS_any (fn : Nat) (c0 : Value) (p : ByteArray → Bool) (hen : ∀ args w, (callFunc fn args).run Try.prog w = .ok (.enter fn args) w) (v : Value) (hs : List ByteArray) (w : World) (hv : TV w v hs)
    (hF : ∀ h ∈ hs, ∀ w', Below w.heap.size w w' → w.heap.size ≤ w'.heap.size → Calls Try.prog fn #[.string h, c0] w' fun e w'' => e = .returned (.bool (p h)) ∧ Below w'.heap.size w' w'') :
    Calls Try.prog 74 #[v, .func (.func fn) #[] #[c0]] w fun e w' => e = .returned (.int .i64 (fstG p hs 0)) ∧ Below w.heap.size w w' := by
  have hv0 := hv
  obtain ⟨A, c, rfl, hc1, -⟩ := hv
  obtain ⟨n, hn⟩ : ∃ n, hs.length = n := ⟨_, rfl⟩
  obtain ⟨r, hr⟩ : ∃ r, fstG p hs 0 = r := ⟨_, rfl⟩
  have HR : Hid (fstG p (hs.drop 0) 0 = r) := hr
  rw [hr]
  rw [List.length_map, hn] at hc1
  have HV := Lib.hid hv0
  rw [List.length_map, hn] at HV ⊢
  have HN := Lib.hid hn
  have HF := Lib.hid hF
  clear hv0 hn hF hr
  go_enter Try.func74, Try.ntmps74
  go_wp2
  go_loopw [9, 5, 6] (fun i x y wr => ∃ k : Nat, (i = .int .i64 (k : Int) ∧ k ≤ n) ∧ Hid (fstG p (hs.drop k) k = r) ∧ Below w.heap.size w wr ∧ w.heap.size ≤ wr.heap.size) (fun i _ _ _ => n - (intOf i).toNat)
  case atStart => exact ⟨0, ⟨rfl, Nat.zero_le _⟩, HR, Below.refl _ _, Nat.le_refl _⟩
  case round =>
    clear HR
    obtain ⟨k, ⟨rfl, hk⟩, hno, hb, hsz⟩ := hrel
    by_cases hlt : k < n
    · have hkc : k < hs.length := by rw [HN.out]; exact hlt
      obtain ⟨g, o, rfl, cc⟩ := TV.at_ HV.out k hkc
      have c1 := cell_belowN cc hb (World.block_lt_of_cell? w _ cc)
      have hst := hno.out
      rw [fstG_step p hs k hkc] at hst
      have hm := HF.out hs[k] (List.getElem_mem hkc)
      obtain ⟨nm, hnm⟩ : ∃ nm, hs[k] = nm := ⟨_, rfl⟩
      obtain ⟨q, hq⟩ : ∃ q, p hs[k] = q := ⟨_, rfl⟩
      rw [hq] at hm hst
      simp only [hnm] at c1 hm
      have d0 : decide (k < n) = true := decide_eq_true hlt
      have k0 : (0 : Int) ≤ (k : Int) := by omega
      have k1 : (k : Int) < (n : Int) := by omega
      have HM := Lib.hid (hm _ hb hsz)
      have HBA := Lib.hid hb
      have HSA := Lib.hid hsz
      have HST := Lib.hid hst
      clear hm hst hno hnm hq hb hsz cc
      go_wp2_with fail
      refine HM.out.mono ?_
      rintro e w2 ⟨rfl, hb2⟩
      have hb3 := HBA.out.trans (hb2.mono HSA.out)
      have hs3 := Nat.le_trans HSA.out hb2.size
      cases q with
      | false =>
        go_wp2
        go_roundw
        case rel => exact ⟨k + 1, ⟨by go_num, by omega⟩, HST.out, hb3, hs3⟩
        case measure => simp [intOf]; omega
      | true =>
        have hf : r = (k : Int) := HST.out.symm
        subst hf
        go_wp2
        go_ret
        exact ⟨rfl, hb3⟩
    · have d0 : decide (k < n) = false := decide_eq_false hlt
      have hf : r = -1 := by rw [← hno.out]; exact fstG_end p hs k (by rw [HN.out]; omega)
      subst hf
      go_wp2
      go_ret
      exact ⟨rfl, hb⟩
end Go.Proofs.Ytofdfcngmkkfdaa

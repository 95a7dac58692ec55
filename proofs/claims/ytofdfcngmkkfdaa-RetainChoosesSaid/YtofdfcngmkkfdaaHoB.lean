/- hold: first of holds, find; Covers. -/
import Derived.RangeFuncNested
import Derived.RangeFuncBound
import Derived.RangeFuncCalls
import Derived.RangeFuncLeaves
import Derived.Shelf.Abstract
import Derived.Shelf.RegionOpen
import Derived.WalkKit
import Derived.OwnWalkIn
import Derived.TacticsInMore
import Derived.LoopNIn
import Derived.LoopIn
import Derived.Outline
import Derived.Lib.Hide
import Derived.Lib.SliceRun
import Derived.IntWalk
import Derived.WalkLawsBesides
import Derived.WalkSpells
import Derived.Laws.BitsAllLaws
import Derived.Lib.ConvBytes
import Derived.Maps.AppendAt
import Derived.Lib.AppendStr
import Derived.Lib.SlBytesConst
import Derived.Laws.AppendOwnNone
import Derived.Laws.OwnMore
import Derived.Laws.BytesArg
import Derived.Deep.RegionHeld3
import Derived.BigQuiet
import Derived.Deep.RegionLaw
import Derived.Deep.QuietTactic
import Derived.Lib.OthersKept
import Derived.Test.YtofdfcngmkkfdaaProg
import Derived.Deep.DeepFit
import Derived.Test.YtofdfcngmkkfdaaHoA
set_option linter.unusedVariables false
set_option linter.unusedSimpArgs false
namespace Go.Proofs.Ytofdfcngmkkfdaa
open Go Go.RowKit Go.Shelf

/-- the place of the first that is such; -1: none -/
def fstG {α : Type} (p : α → Bool) : List α → Nat → Int
  | [], _ => -1
  | x :: l, k => if p x then (k : Int) else fstG p l (k + 1)
theorem fstG_step {α : Type} (p : α → Bool) (l : List α) (k : Nat) (h : k < l.length) : fstG p (l.drop k) k = if p l[k] then (k : Int) else fstG p (l.drop (k + 1)) (k + 1) := by
  rw [List.drop_eq_getElem_cons h]; rfl
theorem fstG_end {α : Type} (p : α → Bool) (l : List α) (k : Nat) (h : l.length ≤ k) : fstG p (l.drop k) k = -1 := by
  rw [List.drop_eq_nil_of_le h]; rfl
theorem fstG_neg {α : Type} (p : α → Bool) : ∀ (l : List α) (k : Nat), fstG p l k = -1 ∧ l.any p = false ∨ (0 ≤ fstG p l k ∧ l.any p = true)
  | [], k => .inl ⟨rfl, rfl⟩
  | x :: l, k => by
    by_cases h : p x = true
    · refine .inr ⟨by rw [fstG, if_pos h]; omega, by simp [h]⟩
    · rcases fstG_neg p l (k + 1) with ⟨h1, h2⟩ | ⟨h1, h2⟩
      · exact .inl ⟨by rw [fstG, if_neg h, h1], by simp [h, h2]⟩
      · exact .inr ⟨by rw [fstG, if_neg h]; exact h1, by simp [h2]⟩
theorem fstG_ge {α : Type} (p : α → Bool) (l : List α) (k : Nat) : decide (0 ≤ fstG p l k) = l.any p := by
  rcases fstG_neg p l k with ⟨h1, h2⟩ | ⟨h1, h2⟩
  · rw [h1, h2]; rfl
  · rw [h2]; exact decide_eq_true h1

theorem boxed_below {W W' : World} {B : Nat} {t : TypeId} {v : Value} (h : Boxed W B t v) (hb : Below W.heap.size W W') : Boxed W' B t v := (hb.block B h.lt).trans h
theorem find1_any (a b s : ByteArray) (B : Nat) (w : World) (hB : Boxed w B 9 (.string s)) :
    Calls Try.prog 86 #[.agg #[.string a, .string b], .pointer (some ⟨B, 0, none⟩)] w fun e w' => e = .returned (.bool (a.toList == s.toList)) ∧ Below w.heap.size w w' := by
  have hc := (hB.alloc (.cells #[.string a, .string b] 47)).cell
  have b0 : Below w.heap.size w (w.alloc (.cells #[.string a, .string b] 47)) := (Below.refl _ _).alloc (Nat.le_refl _) _
  have B0 := Lib.hid b0
  clear b0
  obtain ⟨r, hr⟩ : ∃ r, (a.toList == s.toList) = r := ⟨_, rfl⟩
  rw [hr]
  go_enter Try.func86, Try.ntmps86
  go_wp2
  go_ret
  exact ⟨rfl, B0.out⟩
set_option maxRecDepth 100000 in
set_option maxHeartbeats 4000000 in
/-- **first, of holds, at whatever test** -/
theorem firstH_any (fn : Nat) (c0 : Value) (p : Ru → Bool) (hen : ∀ args w, (callFunc fn args).run Try.prog w = .ok (.enter fn args) w) (v : Value) (hs : List Ru) (w : World) (hv : PV w v (ruV hs))
    (hF : ∀ h ∈ hs, ∀ w', Below w.heap.size w w' → w.heap.size ≤ w'.heap.size → Calls Try.prog fn #[.agg #[.string h.1, .string h.2], c0] w' fun e w'' => e = .returned (.bool (p h)) ∧ Below w'.heap.size w' w'') :
    Calls Try.prog 71 #[v, .func (.func fn) #[] #[c0]] w fun e w' => e = .returned (.int .i64 (fstG p hs 0)) ∧ Below w.heap.size w w' := by
  have hv0 := hv
  obtain ⟨A, c, rfl, hc1, -⟩ := hv
  obtain ⟨n, hn⟩ : ∃ n, hs.length = n := ⟨_, rfl⟩
  obtain ⟨r, hr⟩ : ∃ r, fstG p hs 0 = r := ⟨_, rfl⟩
  have HR : Hid (fstG p (hs.drop 0) 0 = r) := hr
  rw [hr]
  rw [ruV_len, hn] at hc1
  have HV := Lib.hid hv0
  rw [ruV_len, hn] at HV ⊢
  have HN := Lib.hid hn
  have HF := Lib.hid hF
  clear hv0 hn hF hr
  go_enter Try.func71, Try.ntmps71
  go_wp2
  go_loopw [9, 5, 6] (fun i x y wr => ∃ k : Nat, (i = .int .i64 (k : Int) ∧ k ≤ n) ∧ Hid (fstG p (hs.drop k) k = r) ∧ Below w.heap.size w wr ∧ w.heap.size ≤ wr.heap.size) (fun i _ _ _ => n - (intOf i).toNat)
  case atStart => exact ⟨0, ⟨rfl, Nat.zero_le _⟩, HR, Below.refl _ _, Nat.le_refl _⟩
  case round =>
    clear HR
    obtain ⟨k, ⟨rfl, hk⟩, hno, hb, hsz⟩ := hrel
    by_cases hlt : k < n
    · have hkc : k < hs.length := by rw [HN.out]; exact hlt
      obtain ⟨g, o, rfl, c0, c1⟩ := (HV.out.below hb).at_ k _ (ruV_get hs k hkc)
      have hst := hno.out
      rw [fstG_step p hs k hkc] at hst
      have hm := HF.out hs[k] (List.getElem_mem hkc)
      obtain ⟨nm, hnm⟩ : ∃ nm, hs[k].1 = nm := ⟨_, rfl⟩
      obtain ⟨kp, hkp⟩ : ∃ kp, hs[k].2 = kp := ⟨_, rfl⟩
      obtain ⟨q, hq⟩ : ∃ q, p hs[k] = q := ⟨_, rfl⟩
      rw [hnm] at c0
      rw [hkp] at c1
      rw [hnm, hkp, hq] at hm
      rw [hq] at hst
      have d0 : decide (k < n) = true := decide_eq_true hlt
      have k0 : (0 : Int) ≤ (k : Int) := by omega
      have k1 : (k : Int) < (n : Int) := by omega
      have hb' : Below w.heap.size w (wr.alloc (.cells #[.string nm, .string kp] 47)) := hb.alloc hsz _
      have hsz' : w.heap.size ≤ (wr.alloc (.cells #[.string nm, .string kp] 47)).heap.size := by rw [alloc_size]; omega
      have HM := Lib.hid (hm _ hb' hsz')
      have HBA := Lib.hid hb'
      have HSA := Lib.hid hsz'
      have HST := Lib.hid hst
      clear hm hb' hsz' hst hno hnm hkp hq
      go_wp2_with fail
      refine HM.out.mono ?_
      rintro e w2 ⟨rfl, hb2⟩
      have hb3 := HBA.out.trans (hb2.mono HSA.out)
      have hs3 := Nat.le_trans HSA.out hb2.size
      cases q with
      | false =>
        go_wp2
        go_roundw
        case rel => exact ⟨k + 1, ⟨by go_num, by omega⟩, HST.out, hb3, hs3⟩
        case measure => simp [intOf]; omega
      | true =>
        have hf : r = (k : Int) := HST.out.symm
        subst hf
        go_wp2
        go_ret
        exact ⟨rfl, hb3⟩
    · have d0 : decide (k < n) = false := decide_eq_false hlt
      have hf : r = -1 := by rw [← hno.out]; exact fstG_end p hs k (by rw [HN.out]; omega)
      subst hf
      go_wp2
      go_ret
      exact ⟨rfl, hb⟩
/-- the place of a name -/
def fI (hs : List Ru) (s : ByteArray) : Int := fstG (fun h => h.1.toList == s.toList) hs 0
set_option maxRecDepth 100000 in
/-- **find** -/
theorem hfind_any (v : Value) (hs : List Ru) (s : ByteArray) (w : World) (hv : PV w v (ruV hs)) :
    Calls Try.prog 68 #[v, .string s] w fun e w' => e = .returned (.int .i64 (fI hs s)) ∧ Below w.heap.size w w' := by
  have b0 : Below w.heap.size w (w.alloc (.cells #[.string s] 9)) := (Below.refl _ _).alloc (Nat.le_refl _) _
  have hx : Boxed (w.alloc (.cells #[.string s] 9)) w.heap.size 9 (.string s) := Boxed.new w _ _
  have h := firstH_any 86 (.pointer (some ⟨w.heap.size, 0, none⟩)) (fun h => h.1.toList == s.toList) (fun _ _ => rfl) v hs _ (hv.below b0)
    (fun x _ w' hb hs' => find1_any x.1 x.2 s w.heap.size w' (boxed_below hx hb))
  have H := Lib.hid h
  have B0 := Lib.hid b0
  obtain ⟨r, hr⟩ : ∃ r, fI hs s = r := ⟨_, rfl⟩
  have hr' : fstG (fun h : Ru => h.1.toList == s.toList) hs 0 = r := hr
  rw [hr'] at H
  rw [hr]
  obtain ⟨A, c, rfl, hc1, -⟩ := hv
  clear h b0 hx hr hr'
  go_enter Try.func68, Try.ntmps68
  go_wp2_with fail
  refine H.out.mono ?_
  rintro e w2 ⟨rfl, hb2⟩
  go_wp2
  go_ret
  exact ⟨rfl, B0.out.trans (hb2.mono (by rw [alloc_size]; omega))⟩
end Go.Proofs.Ytofdfcngmkkfdaa

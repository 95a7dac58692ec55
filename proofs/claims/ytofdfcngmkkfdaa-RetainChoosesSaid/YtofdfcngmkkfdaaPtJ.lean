/- Parse, Of, Show. -/
import Derived.RangeFuncNested
import Derived.RangeFuncBound
import Derived.RangeFuncCalls
import Derived.RangeFuncLeaves
import Derived.Shelf.Abstract
import Derived.Shelf.RegionOpen
import Derived.WalkKit
import Derived.OwnWalkIn
import Derived.TacticsInMore
import Derived.LoopNIn
import Derived.LoopIn
import Derived.Outline
import Derived.Lib.Hide
import Derived.Lib.SliceRun
import Derived.IntWalk
import Derived.WalkLawsBesides
import Derived.WalkSpells
import Derived.Laws.BitsAllLaws
import Derived.Lib.ConvBytes
import Derived.Maps.AppendAt
import Derived.Lib.AppendStr
import Derived.Lib.SlBytesConst
import Derived.Laws.AppendOwnNone
import Derived.Laws.OwnMore
import Derived.Laws.BytesArg
import Derived.Deep.RegionHeld3
import Derived.BigQuiet
import Derived.Deep.RegionLaw
import Derived.Deep.QuietTactic
import Derived.Lib.OthersKept
import Derived.Test.YtofdfcngmkkfdaaProg
import Derived.Deep.DeepFit
import Derived.Test.YtofdfcngmkkfdaaPtI
set_option linter.unusedVariables false
set_option linter.unusedSimpArgs false
namespace Go.Proofs.Ytofdfcngmkkfdaa
open Go Go.RowKit Go.Shelf

abbrev St (l : List UInt8) : Value := .string ⟨l.toArray⟩
theorem St_bl (s : ByteArray) : St (bl s) = .string s := by unfold St; rw [mk_bl]
/-- what Parse answers -/
def parG (l : List UInt8) : Bool := decide (0 ≤ Lib.indexByte (l.drop 1) 62) && (decide (Lib.indexByte (l.drop 1) 62 = 0) || mailB ((l.drop 1).take (Lib.indexByte (l.drop 1) 62).toNat))
def parB (l : List UInt8) : Bool := decide (1 ≤ l.length) && gb l 0 == 60 && parG l
def parA (l : List UInt8) : List UInt8 := if parB l then (l.drop 1).take (Lib.indexByte (l.drop 1) 62).toNat else []
def parR (l : List UInt8) : List UInt8 := if parB l then (l.drop 1).drop ((Lib.indexByte (l.drop 1) 62).toNat + 1) else l
theorem indexByte_first (l : List UInt8) (c : UInt8) (k : Nat) (h : l[k]? = some c) (h2 : ∀ j, j < k → l[j]? ≠ some c) : Lib.indexByte l c = k := by
  rcases cut_one l c with ⟨hn, _⟩ | ⟨a, b, hab, hna, hi⟩
  · exact absurd (List.mem_of_getElem? h) hn
  · rw [hi]
    congr 1
    rcases Nat.lt_trichotomy a.length k with hlt | he | hgt
    · exact absurd (by rw [hab, List.getElem?_append_right (by omega), Nat.sub_self]; rfl) (h2 a.length hlt)
    · exact he
    · rw [hab, List.getElem?_append_left hgt] at h
      exact absurd (List.mem_of_getElem? h) hna
theorem indexByte_never (l : List UInt8) (c : UInt8) (h : ∀ j, j < l.length → l[j]? ≠ some c) : Lib.indexByte l c = -1 := by
  rcases cut_one l c with ⟨_, hi⟩ | ⟨a, b, hab, hna, hi⟩
  · exact hi
  · exact absurd (by rw [hab, List.getElem?_append_right (by omega), Nat.sub_self]; rfl) (h a.length (by rw [hab]; simp))
theorem gbc_eq {l : List UInt8} {j : Nat} {c : UInt8} (hj : j < l.length) : gb l j = c.toNat ↔ l[j]? = some c := by
  unfold gb
  rw [List.getElem?_eq_getElem hj]
  simp only [Option.getD_some, Option.some.injEq]
  exact UInt8.toNat_inj

theorem cutp_no (s : ByteArray) (c : UInt8) (h : s.size = 0 ∨ gb (bl s) 0 ≠ c.toNat) (w : World) : Calls Try.prog 60 #[.string s, .string ⟨#[c]⟩] w fun e w' => e = .returned (.tuple #[.string s, .bool false]) ∧ w' = w := by
  have := Try.strings_CutPrefix s ⟨#[c]⟩ w
  have hp : Lib.hasPrefix s.data.toList [c] = false := by
    show [c].isPrefixOf (bl s) = false
    cases e : bl s with
    | nil => rfl
    | cons x r =>
      have h2 : gb (bl s) 0 ≠ c.toNat := h.resolve_left (by rw [← bl_len, e]; simp)
      rw [e] at h2
      simp only [List.isPrefixOf, Bool.and_eq_false_iff, beq_eq_false_iff_ne]
      left
      intro e2; subst e2; exact h2 rfl
  simp only [show (⟨#[c]⟩ : ByteArray).data.toList = [c] from rfl, hp, Lib.trimPrefix] at this
  rw [show (⟨(if false = true then List.drop [c].length s.data.toList else s.data.toList).toArray⟩ : ByteArray) = s from mk_bl s] at this
  exact this
theorem cutp_yes (s : ByteArray) (c : UInt8) (h1 : 1 ≤ s.size) (h : gb (bl s) 0 = c.toNat) (w : World) : Calls Try.prog 60 #[.string s, .string ⟨#[c]⟩] w fun e w' => e = .returned (.tuple #[.string (s.extract 1 s.size), .bool true]) ∧ w' = w := by
  have := Try.strings_CutPrefix s ⟨#[c]⟩ w
  have he : (⟨((bl s).drop 1).toArray⟩ : ByteArray) = s.extract 1 s.size := by
    rw [← mk_bl (s.extract 1 s.size), bl_extract, List.take_of_length_le (by simp [bl_len])]
  have hp : Lib.hasPrefix s.data.toList [c] = true := by
    show [c].isPrefixOf (bl s) = true
    cases e : bl s with
    | nil => have := bl_len s; rw [e] at this; simp at this; omega
    | cons x r =>
      rw [e] at h
      have : x = c := UInt8.toNat_inj.1 h
      subst this
      simp [List.isPrefixOf]
  have e1 : Lib.trimPrefix s.data.toList [c] = (bl s).drop 1 := by unfold Lib.trimPrefix; rw [hp]; rfl
  simp only [show (⟨#[c]⟩ : ByteArray).data.toList = [c] from rfl, hp, e1, he] at this
  exact this

set_option maxRecDepth 100000 in
set_option maxHeartbeats 4000000 in
/-- **Parse** -/
theorem parse_any (s : ByteArray) (hm : s.size ≤ maxLen) (w : World) :
    Calls Try.prog 23 #[.string s] w fun e w' => e = .returned (.tuple #[St (parA (bl s)), St (parR (bl s)), .bool (parB (bl s))]) ∧ Below w.heap.size w w' := by
  by_cases h0 : 1 ≤ s.size ∧ gb (bl s) 0 = 60
  · obtain ⟨h1, h60⟩ := h0
    have HC := Lib.hid (fun w => cutp_yes s 60 h1 h60 w)
    obtain ⟨q, hq⟩ : ∃ q, s.extract 1 s.size = q := ⟨_, rfl⟩
    have hqb : (bl s).drop 1 = bl q := by rw [← hq, bl_extract, List.take_of_length_le (by simp [bl_len])]
    have hqs : q.size ≤ maxLen := by unfold maxLen at hm ⊢; rw [← bl_len, ← hqb]; simp [bl_len]; omega
    have hqm : q.size ≤ maxLen := hqs
    have hpb : parB (bl s) = parG (bl s) := by unfold parB; rw [h60, show decide (1 ≤ (bl s).length) = true from decide_eq_true (by rw [bl_len]; exact h1)]; rfl
    rw [hq] at HC
    rcases cut_one (bl q) 62 with ⟨hno, hix⟩ | ⟨a, b, hab, hna, hix⟩
    · have hB : parB (bl s) = false := by rw [hpb]; unfold parG; rw [hqb, hix]; rfl
      have hA : parA (bl s) = [] := by unfold parA; rw [hB]; rfl
      have hR : parR (bl s) = bl s := by unfold parR; rw [hB]; rfl
      rw [hA, hR, hB, St_bl]
      have HD := Lib.hid (fun w => cut_none q 62 hix w)
      clear hA hR hB hpb hqb hq hix hno h60
      go_enter Try.func23, Try.ntmps23
      go_wp2_with fail
      refine (HC.out _).mono ?_
      rintro e w' ⟨rfl, rfl⟩
      go_wp2_with fail
      refine (HD.out _).mono ?_
      rintro e w' ⟨rfl, rfl⟩
      go_wp2
      go_ret3
      exact ⟨rfl, Below.refl _ _⟩
    · have hal : a.length < q.size := by rw [← bl_len, hab]; simp
      have HD := Lib.hid (fun w => cut_some q 62 a.length hal hqm hix w)
      have hea : bl (q.extract 0 a.length) = a := by rw [bl_extract, List.drop_zero, Nat.sub_zero, hab, List.take_left]
      have heb : bl (q.extract (a.length + 1) q.size) = b := by
        rw [bl_extract, ← bl_len, hab, List.take_of_length_le (by simp; omega), show a.length + 1 = (a ++ [62]).length by simp, show a ++ 62 :: b = (a ++ [62]) ++ b by simp, List.drop_left]
      have hpg : parG (bl s) = (decide (a.length = 0) || mailB a) := by
        unfold parG
        rw [hqb, hix, show decide ((0 : Int) ≤ (a.length : Int)) = true from decide_eq_true (by omega), Bool.true_and, Int.toNat_natCast]
        congr 1
        · exact decide_eq_decide.2 (by omega)
        · rw [hab, List.take_left]
      have hAA : parB (bl s) = true → parA (bl s) = a ∧ parR (bl s) = b := by
        intro h
        unfold parA parR
        rw [h, if_pos rfl, if_pos rfl, hqb, hix, Int.toNat_natCast]
        exact ⟨by rw [hab, List.take_left], by rw [hab, show a.length + 1 = (a ++ [62]).length by simp, show a ++ 62 :: b = (a ++ [62]) ++ b by simp, List.drop_left]⟩
      obtain ⟨ca, hca⟩ : ∃ c, q.extract 0 a.length = c := ⟨_, rfl⟩
      obtain ⟨cb, hcb⟩ : ∃ c, q.extract (a.length + 1) q.size = c := ⟨_, rfl⟩
      rw [hca, hcb] at HD
      rw [hca] at hea
      rw [hcb] at heb
      have hla : ca.size = a.length := by rw [← bl_len, hea]
      rw [← hpb] at hpg
      by_cases ha0 : a.length = 0
      · have hB : parB (bl s) = true := by rw [hpg, ha0]; rfl
        obtain ⟨hA, hR⟩ := hAA hB
        have hce : ca = ⟨#[]⟩ := bl_ext (by rw [hea]; exact List.length_eq_zero_iff.1 ha0)
        rw [hA, hR, hB, ← hea, ← heb, St_bl, St_bl]
        subst hce
        clear hA hR hB hpg hAA hpb hqb hq hix hna hab h60 hea heb hca hcb hal
        go_enter Try.func23, Try.ntmps23
        go_wp2_with fail
        refine (HC.out _).mono ?_
        rintro e w' ⟨rfl, rfl⟩
        go_wp2_with fail
        refine (HD.out _).mono ?_
        rintro e w' ⟨rfl, m, rfl⟩
        go_wp2
        go_ret3
        exact ⟨rfl, below_drewN (Below.refl _ _) _⟩
      · obtain ⟨e1, e1'⟩ := empty_len (s := ca) (by omega)
        have hmb := fun w => mailbox_any ca (by unfold maxLen at hqs ⊢; omega) w
        rw [hea] at hmb
        obtain ⟨mb, hmbv⟩ : ∃ mb, mailB a = mb := ⟨_, rfl⟩
        simp only [hmbv] at hmb hpg
        rw [show decide (a.length = 0) = false from decide_eq_false ha0, Bool.false_or] at hpg
        have HM := Lib.hid hmb
        cases mb with
        | true =>
          obtain ⟨hA, hR⟩ := hAA hpg
          rw [hA, hR, hpg, ← hea, ← heb, St_bl, St_bl]
          clear hA hR hpg hAA hpb hqb hq hix hna hab h60 hea heb hca hcb hal hmb hmbv hla ha0
          go_enter Try.func23, Try.ntmps23
          go_wp2_with fail
          refine (HC.out _).mono ?_
          rintro e w' ⟨rfl, rfl⟩
          go_wp2_with fail
          refine (HD.out _).mono ?_
          rintro e w' ⟨rfl, m, rfl⟩
          go_wp2_with fail
          refine (HM.out _).mono ?_
          rintro e w1 ⟨rfl, hB⟩
          go_wp2
          go_ret3
          exact ⟨rfl, (below_drewN (Below.refl _ _) _).trans hB⟩
        | false =>
          have hA : parA (bl s) = [] := by unfold parA; rw [hpg]; rfl
          have hR : parR (bl s) = bl s := by unfold parR; rw [hpg]; rfl
          rw [hA, hR, hpg, St_bl]
          clear hA hR hpg hAA hpb hqb hq hix hna hab h60 hea heb hca hcb hal hmb hmbv hla ha0
          go_enter Try.func23, Try.ntmps23
          go_wp2_with fail
          refine (HC.out _).mono ?_
          rintro e w' ⟨rfl, rfl⟩
          go_wp2_with fail
          refine (HD.out _).mono ?_
          rintro e w' ⟨rfl, m, rfl⟩
          go_wp2_with fail
          refine (HM.out _).mono ?_
          rintro e w1 ⟨rfl, hB⟩
          go_wp2
          go_ret3
          exact ⟨rfl, (below_drewN (Below.refl _ _) _).trans hB⟩
  · have hB : parB (bl s) = false := by
      unfold parB
      by_cases h1 : 1 ≤ s.size
      · have : gb (bl s) 0 ≠ 60 := fun e => h0 ⟨h1, e⟩
        rw [show (gb (bl s) 0 == 60) = false by simpa using this, Bool.and_false]; rfl
      · rw [show decide (1 ≤ (bl s).length) = false from decide_eq_false (by rw [bl_len]; exact h1)]; rfl
    have hA : parA (bl s) = [] := by unfold parA; rw [hB]; rfl
    have hR : parR (bl s) = bl s := by unfold parR; rw [hB]; rfl
    rw [hA, hR, hB, St_bl]
    have HC := Lib.hid (fun w => cutp_no s 60 (by by_cases h1 : 1 ≤ s.size; exact .inr (fun e => h0 ⟨h1, e⟩); exact .inl (by omega)) w)
    clear hA hR hB h0
    go_enter Try.func23, Try.ntmps23
    go_wp2_with fail
    refine (HC.out _).mono ?_
    rintro e w' ⟨rfl, rfl⟩
    go_wp2
    go_ret3
    exact ⟨rfl, Below.refl _ _⟩
end Go.Proofs.Ytofdfcngmkkfdaa

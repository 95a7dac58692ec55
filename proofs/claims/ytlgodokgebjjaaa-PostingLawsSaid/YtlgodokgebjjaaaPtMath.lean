/- Texts as lists of bytes: parts between points, the last place of a byte, labels, domains, mailboxes. Plain. -/
import Derived.RangeFuncNested
import Derived.RangeFuncBound
import Derived.RangeFuncCalls
import Derived.RangeFuncLeaves
import Derived.Shelf.Abstract
import Derived.Shelf.RegionOpen
import Derived.WalkKit
import Derived.OwnWalkIn
import Derived.TacticsInMore
import Derived.LoopNIn
import Derived.LoopIn
import Derived.Outline
import Derived.Lib.Hide
import Derived.Lib.SliceRun
import Derived.IntWalk
import Derived.WalkLawsBesides
import Derived.WalkSpells
import Derived.Laws.BitsAllLaws
import Derived.Lib.ConvBytes
import Derived.Maps.AppendAt
import Derived.Lib.AppendStr
import Derived.Lib.SlBytesConst
import Derived.Laws.AppendOwnNone
import Derived.Laws.OwnMore
import Derived.Laws.BytesArg
import Derived.Deep.RegionHeld3
import Derived.BigQuiet
import Derived.Deep.RegionLaw
import Derived.Deep.QuietTactic
import Derived.Lib.OthersKept
import Derived.Test.YtlgodokgebjjaaaProg
import Derived.Deep.DeepFit
import Derived.Lib.IndexMore
import Derived.Lib.IndexLaws
import Derived.Lib.IndexBytes
import Derived.Lib.LastIndexByte
import Derived.Lib.Strings
import Derived.Test.YtlgodokgebjjaaaGen
set_option linter.unusedVariables false
set_option linter.unusedSimpArgs false
namespace Go.Proofs.Ytlgodokgebjjaaa
open Go Go.RowKit Go.Shelf

/-- a text's bytes -/
def bl (s : ByteArray) : List UInt8 := s.data.toList
theorem bl_len (s : ByteArray) : (bl s).length = s.size := by rw [Lib.size_eq]; rfl
theorem bl_get (s : ByteArray) (i : Nat) (h : i < s.size) : (s[i]'h).toNat = gb (bl s) i := by
  unfold gb bl
  have h2 : i < s.data.size := h
  rw [Array.getElem?_toList, Array.getElem?_eq_getElem h2]
  rfl
theorem bl_extract (s : ByteArray) (a b : Nat) : bl (s.extract a b) = ((bl s).drop a).take (b - a) := Lib.extract_data s a b
theorem bl_ext {a b : ByteArray} (h : bl a = bl b) : a = b := by
  cases a with | mk x => cases b with | mk y =>
  simp only [bl] at h
  rw [Array.toList_inj.1 h]
theorem bl_mk (l : List UInt8) : bl ⟨l.toArray⟩ = l := by simp [bl]
theorem mk_bl (s : ByteArray) : (⟨(bl s).toArray⟩ : ByteArray) = s := by cases s; simp [bl]
theorem toList_bl (s : ByteArray) : s.toList = bl s := by
  exact ByteArray.toList_eq s
theorem beq_bl (a b : ByteArray) : (a.toList == b.toList) = (bl a == bl b) := by rw [toList_bl, toList_bl]

def wordN (c : Nat) : Bool := decide (97 ≤ c ∧ c ≤ 122) || decide (65 ≤ c ∧ c ≤ 90) || decide (48 ≤ c ∧ c ≤ 57)
def markN (c : Nat) : Bool := [33, 35, 36, 37, 38, 39, 42, 43, 45, 47, 61, 63, 94, 95, 123, 124, 125, 126, 96].contains c
def atomN (c : Nat) : Bool := wordN c || markN c
def kindN (c : Nat) : Int := if wordN c then 2 else if markN c then 1 else 0
set_option maxRecDepth 100000 in
theorem mark_index : ∀ c : Nat, c < 256 → decide (0 ≤ Lib.indexByte [33, 35, 36, 37, 38, 39, 42, 43, 45, 47, 61, 63, 94, 95, 123, 124, 125, 126, 96] ((c : Int).toNat.toUInt8)) = markN c := by decide +kernel
def ofN (p : Nat → Bool) (l : List UInt8) : Bool := l.all fun b => p b.toNat
theorem ofN_snoc (p : Nat → Bool) (l : List UInt8) (k : Nat) (h : k < l.length) : ofN p (l.take (k + 1)) = (ofN p (l.take k) && p (gb l k)) := by
  unfold ofN
  rw [List.take_succ_eq_append_getElem h, List.all_append]
  simp [gb, h]
theorem ofN_not (p : Nat → Bool) (l : List UInt8) (k : Nat) (h : k < l.length) (hp : p (gb l k) = false) : ofN p l = false := by
  unfold ofN
  rw [List.all_eq_false]
  exact ⟨l[k], List.getElem_mem h, by simp only [gb, List.getElem?_eq_getElem h, Option.getD_some] at hp; simp [hp]⟩
theorem ofN_all (p : Nat → Bool) (l : List UInt8) (k : Nat) (h : ofN p (l.take k) = true) (hk : l.length ≤ k) : ofN p l = true := by
  rwa [List.take_of_length_le hk] at h
theorem ofN_nil (p : Nat → Bool) (l : List UInt8) : ofN p (l.take 0) = true := rfl

/-- what stands between points -/
def sp : List UInt8 → List (List UInt8)
  | [] => [[]]
  | c :: r => if c = 46 then [] :: sp r else match sp r with
    | [] => [[c]]
    | h :: t => (c :: h) :: t
theorem sp_ne (l : List UInt8) : sp l ≠ [] := by
  cases l with
  | nil => simp [sp]
  | cons c r =>
    unfold sp
    split
    · simp
    · split <;> simp
theorem sp_none : ∀ (l : List UInt8), (46 : UInt8) ∉ l → sp l = [l]
  | [], _ => rfl
  | c :: r, h => by
    have hc : c ≠ 46 := fun e => h (by simp [e])
    have := sp_none r (fun e => h (List.mem_cons_of_mem _ e))
    rw [sp, if_neg hc, this]
theorem sp_some : ∀ (a b : List UInt8), (46 : UInt8) ∉ a → sp (a ++ 46 :: b) = a :: sp b
  | [], b, _ => by simp [sp]
  | c :: r, b, h => by
    have hc : c ≠ 46 := fun e => h (by simp [e])
    have := sp_some r b (fun e => h (List.mem_cons_of_mem _ e))
    rw [List.cons_append, sp, if_neg hc, this]
theorem sp_len : ∀ (l : List UInt8), (sp l).length ≤ l.length + 1
  | [] => by simp [sp]
  | c :: r => by
    have := sp_len r
    unfold sp
    split
    · simp; omega
    · split
      · simp
      · rename_i h; rw [h] at this; simp at this ⊢; omega
theorem sp_mem_len : ∀ (l : List UInt8), ∀ x ∈ sp l, x.length ≤ l.length
  | [] => by simp [sp]
  | c :: r => by
    intro x hx
    have ih := sp_mem_len r
    unfold sp at hx
    split at hx
    · simp at hx
      rcases hx with rfl | hx
      · simp
      · have := ih x hx; simp; omega
    · split at hx
      · simp at hx; subst hx; simp
      · rename_i h t e
        rw [e] at ih
        simp at hx
        rcases hx with rfl | hx
        · have := ih h (by simp); simp; omega
        · have := ih x (by simp [hx]); simp; omega

/-- strings.Cut at one byte -/
theorem cut_one (l : List UInt8) (c : UInt8) : (c ∉ l ∧ Lib.indexByte l c = -1) ∨ ∃ a b, l = a ++ c :: b ∧ c ∉ a ∧ Lib.indexByte l c = a.length := by
  have hge := Lib.indexByte_ge l c
  by_cases h : Lib.indexByte l c = -1
  · refine .inl ⟨fun hm => ?_, h⟩
    obtain ⟨k, hk⟩ := List.mem_iff_getElem?.1 hm
    exact Lib.indexByte_none h k hk
  · obtain ⟨o, ho⟩ : ∃ o : Nat, Lib.indexByte l c = o := ⟨(Lib.indexByte l c).toNat, by omega⟩
    obtain ⟨h1, h2⟩ := Lib.indexByte_some ho
    have hlt : o < l.length := (List.getElem?_eq_some_iff.1 h1).1
    have he : l[o] = c := (List.getElem?_eq_some_iff.1 h1).2
    refine .inr ⟨l.take o, l.drop (o + 1), ?_, ?_, ?_⟩
    · rw [← he, ← List.drop_eq_getElem_cons hlt, List.take_append_drop]
    · intro hm
      obtain ⟨k, hk⟩ := List.mem_iff_getElem?.1 hm
      have hk2 : k < (l.take o).length := (List.getElem?_eq_some_iff.1 hk).1
      have hk3 : k < o := by simp at hk2; omega
      rw [List.getElem?_take_of_lt hk3] at hk
      exact h2 k hk3 hk
    · rw [ho]; simp; omega

def labelB (l : List UInt8) : Bool := decide (1 ≤ l.length) && decide (l.length ≤ 63) && !(gb l 0 == 45) && !(gb l (l.length - 1) == 45) && ofN (fun c => wordN c || c == 45) l
def domB (l : List UInt8) : Bool := (sp l).all labelB && decide (l.length ≤ 255)
def nameB (l : List UInt8) : Bool := !l.isEmpty && ofN atomN l
/-- the last place of a byte among the first k -/
def lastN (l : List UInt8) (c : Nat) : Nat → Int
  | 0 => -1
  | k + 1 => if gb l k = c then (k : Int) else lastN l c k
theorem lastN_lib (s : ByteArray) (c : Nat) : ∀ k, k ≤ s.size → Lib.lastIdx s c k = lastN (bl s) c k
  | 0, _ => rfl
  | k + 1, h => by
    have ih := lastN_lib s c k (by omega)
    have e : (s.data[k]!).toNat = gb (bl s) k := by
      have h2 : k < s.data.size := h
      rw [← bl_get s k (by omega), getElem!_pos s.data k h2]
      rfl
    simp only [Lib.lastIdx, lastN, e, ih]
    by_cases h3 : gb (bl s) k = c
    · rw [if_pos h3, if_pos (by omega)]
    · rw [if_neg h3, if_neg (by omega)]
theorem lastN_bound (l : List UInt8) (c : Nat) : ∀ k, -1 ≤ lastN l c k ∧ lastN l c k < k
  | 0 => by simp [lastN]
  | k + 1 => by
    have := lastN_bound l c k
    unfold lastN
    split <;> omega
def lastB (l : List UInt8) (c : Nat) : Int := lastN l c l.length
theorem lastB_lib (s : ByteArray) (c : Nat) : Lib.lastIndexByte s c = lastB (bl s) c := by
  unfold Lib.lastIndexByte lastB
  rw [lastN_lib s c s.size (Nat.le_refl _), bl_len]
theorem lastB_bound (l : List UInt8) (c : Nat) : -1 ≤ lastB l c ∧ lastB l c < l.length := lastN_bound l c _
def mailB (l : List UInt8) : Bool := decide (1 ≤ lastB l 64) && decide (lastB l 64 ≤ 64) && domB (l.drop ((lastB l 64).toNat + 1)) && (sp (l.take (lastB l 64).toNat)).all nameB
end Go.Proofs.Ytlgodokgebjjaaa

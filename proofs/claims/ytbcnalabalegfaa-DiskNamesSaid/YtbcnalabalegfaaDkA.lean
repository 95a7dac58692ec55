/- Name and the reference's Name. -/
import Derived.RangeFuncNested
import Derived.RangeFuncBound
import Derived.RangeFuncCalls
import Derived.RangeFuncLeaves
import Derived.Shelf.Abstract
import Derived.Shelf.RegionOpen
import Derived.WalkKit
import Derived.OwnWalkIn
import Derived.TacticsInMore
import Derived.LoopNIn
import Derived.LoopIn
import Derived.Outline
import Derived.Lib.Hide
import Derived.Lib.SliceRun
import Derived.IntWalk
import Derived.WalkLawsBesides
import Derived.WalkSpells
import Derived.Laws.BitsAllLaws
import Derived.Lib.ConvBytes
import Derived.Maps.AppendAt
import Derived.Lib.AppendStr
import Derived.Lib.SlBytesConst
import Derived.Laws.AppendOwnNone
import Derived.Laws.OwnMore
import Derived.Laws.BytesArg
import Derived.Deep.RegionHeld3
import Derived.BigQuiet
import Derived.Deep.RegionLaw
import Derived.Deep.QuietTactic
import Derived.Lib.OthersKept
import Derived.Test.YtbcnalabalegfaaProg
import Derived.Deep.DeepFit
import Derived.Laws.RangeString
import Derived.Laws.RangeAny
import Derived.Laws.Runes
import Derived.Test.YtbcnalabalegfaaSgBase
set_option linter.unusedVariables false
set_option linter.unusedSimpArgs false
namespace Go.Proofs.Ytbcnalabalegfaa
open Go Go.RowKit Go.Shelf

/-- what a name may hold -/
def okN (c : Nat) : Bool := decide ((97 ≤ c ∧ c ≤ 122) ∨ (48 ≤ c ∧ c ≤ 57) ∨ c = 45 ∨ c = 46)
def okL (l : List UInt8) : Bool := l.all fun b => okN b.toNat
theorem okL_drop (l : List UInt8) (k : Nat) (h : k < l.length) : okL (l.drop k) = (okN (gb l k) && okL (l.drop (k + 1))) := by
  rw [List.drop_eq_getElem_cons h]
  unfold okL gb
  rw [List.all_cons, List.getElem?_eq_getElem h]
  rfl
def dnameB (s : ByteArray) : Bool := okL (bl s) && decide (1 ≤ s.size) && decide (s.size ≤ 64)
set_option maxRecDepth 100000 in
set_option maxHeartbeats 4000000 in
/-- **the reference's Name** -/
theorem qname_any (s : ByteArray) (hm : s.size ≤ 1000000) (w : World) :
    Calls Try.prog 6 #[.string s] w fun e w' => e = .returned (.bool (dnameB s)) ∧ w' = w := by
  have hlen : (bl s).length = s.size := bl_len s
  obtain ⟨q, hq⟩ : ∃ q, okL (bl s) = q := ⟨_, rfl⟩
  have hte : dnameB s = (q && decide (1 ≤ s.size) && decide (s.size ≤ 64)) := by unfold dnameB; rw [hq]
  have hq0 : Hid (okL ((bl s).drop 0) = q) := hq
  rw [hte]
  have hgl := fun j => gb_lt (bl s) j
  have hst := fun k (hk : k < s.size) => okL_drop (bl s) k (by rw [hlen]; exact hk)
  have hget : ∀ (k : Nat) (hk : k < s.size), ((s[k]'hk).toNat : Int) = (gb (bl s) k : Int) := fun k hk => by rw [bl_get]
  have HST := Lib.hid hst
  have HL := Lib.hid hlen
  clear hte hq hst hlen
  have q0 : (s.size : Int) ≤ 1000000 := by omega
  go_enter Try.func6, Try.ntmps6
  go_wp2
  go_loopw [3] (fun i wr => ∃ k : Nat, (i = .int .i64 (k : Int) ∧ k ≤ s.size) ∧ Hid (okL ((bl s).drop k) = q) ∧ wr = w) (fun i _ => s.size - (intOf i).toNat)
  case atStart => exact ⟨0, ⟨rfl, Nat.zero_le _⟩, hq0, rfl⟩
  case round =>
    clear hq0
    obtain ⟨k, ⟨rfl, hk⟩, hno, rfl⟩ := hrel
    by_cases hlt : k < s.size
    · have h1 := HST.out k hlt
      have hgk := hget k hlt
      have hx := hgl k
      obtain ⟨x, hxe⟩ : ∃ x, gb (bl s) k = x := ⟨_, rfl⟩
      rw [hxe] at h1 hgk hx
      have hnn := hno.out
      rw [h1] at hnn
      have HNN := Lib.hid hnn
      have d0 : decide (k < s.size) = true := decide_eq_true hlt
      have k0 : (0 : Int) ≤ (k : Int) := by omega
      have k1 : (k : Int) < (s.size : Int) := by omega
      have hx' : x < 256 := by omega
      clear h1 hxe hno hnn hget hgl hx
      rcases (by omega : (x < 45) ∨ (45 ≤ x ∧ x < 46) ∨ (46 ≤ x ∧ x < 47) ∨ (47 ≤ x ∧ x < 48) ∨ (48 ≤ x ∧ x < 58) ∨ (58 ≤ x ∧ x < 97) ∨ (97 ≤ x ∧ x < 123) ∨ (123 ≤ x)) with hr | hr | hr | hr | hr | hr | hr | hr
      · have dn1 : decide (97 ≤ x) = false := by simp; omega
        have dn2 : decide ((97 : Int) ≤ (x : Int)) = false := by simp; omega
        have dn3 : decide (48 ≤ x) = false := by simp; omega
        have dn4 : decide ((48 : Int) ≤ (x : Int)) = false := by simp; omega
        have dn5 : decide (x ≤ 122) = true := by simp; omega
        have dn6 : decide ((x : Int) ≤ 122) = true := by simp; omega
        have dn7 : decide (x ≤ 57) = true := by simp; omega
        have dn8 : decide ((x : Int) ≤ 57) = true := by simp; omega
        have dn9 : (x == 45) = false := by simp; omega
        have dn10 : ((x : Int) == 45) = false := by simp; omega
        have dn11 : (x == 46) = false := by simp; omega
        have dn12 : ((x : Int) == 46) = false := by simp; omega
        first
          | (have hqf : q = false := by rw [← HNN.out, show okN x = false from decide_eq_false (by omega)]; rfl
             go_wp2
             go_ret
             exact ⟨by first | rfl | (rw [hqf]; rfl), rfl⟩)
          | (have hqf : Hid (okL ((bl s).drop (k + 1)) = q) := by
               have := HNN.out
               rw [show okN x = true from decide_eq_true (by omega)] at this
               exact this
             go_wp2
             go_roundw
             case rel => exact ⟨k + 1, ⟨by go_num, by omega⟩, hqf, by first | trivial | rfl⟩
             case measure => simp [intOf]; omega)
      · have dn1 : decide (97 ≤ x) = false := by simp; omega
        have dn2 : decide ((97 : Int) ≤ (x : Int)) = false := by simp; omega
        have dn3 : decide (48 ≤ x) = false := by simp; omega
        have dn4 : decide ((48 : Int) ≤ (x : Int)) = false := by simp; omega
        have dn5 : decide (x ≤ 122) = true := by simp; omega
        have dn6 : decide ((x : Int) ≤ 122) = true := by simp; omega
        have dn7 : decide (x ≤ 57) = true := by simp; omega
        have dn8 : decide ((x : Int) ≤ 57) = true := by simp; omega
        have dn9 : (x == 45) = true := by simp; omega
        have dn10 : ((x : Int) == 45) = true := by simp; omega
        have dn11 : (x == 46) = false := by simp; omega
        have dn12 : ((x : Int) == 46) = false := by simp; omega
        first
          | (have hqf : q = false := by rw [← HNN.out, show okN x = false from decide_eq_false (by omega)]; rfl
             go_wp2
             go_ret
             exact ⟨by first | rfl | (rw [hqf]; rfl), rfl⟩)
          | (have hqf : Hid (okL ((bl s).drop (k + 1)) = q) := by
               have := HNN.out
               rw [show okN x = true from decide_eq_true (by omega)] at this
               exact this
             go_wp2
             go_roundw
             case rel => exact ⟨k + 1, ⟨by go_num, by omega⟩, hqf, by first | trivial | rfl⟩
             case measure => simp [intOf]; omega)
      · have dn1 : decide (97 ≤ x) = false := by simp; omega
        have dn2 : decide ((97 : Int) ≤ (x : Int)) = false := by simp; omega
        have dn3 : decide (48 ≤ x) = false := by simp; omega
        have dn4 : decide ((48 : Int) ≤ (x : Int)) = false := by simp; omega
        have dn5 : decide (x ≤ 122) = true := by simp; omega
        have dn6 : decide ((x : Int) ≤ 122) = true := by simp; omega
        have dn7 : decide (x ≤ 57) = true := by simp; omega
        have dn8 : decide ((x : Int) ≤ 57) = true := by simp; omega
        have dn9 : (x == 45) = false := by simp; omega
        have dn10 : ((x : Int) == 45) = false := by simp; omega
        have dn11 : (x == 46) = true := by simp; omega
        have dn12 : ((x : Int) == 46) = true := by simp; omega
        first
          | (have hqf : q = false := by rw [← HNN.out, show okN x = false from decide_eq_false (by omega)]; rfl
             go_wp2
             go_ret
             exact ⟨by first | rfl | (rw [hqf]; rfl), rfl⟩)
          | (have hqf : Hid (okL ((bl s).drop (k + 1)) = q) := by
               have := HNN.out
               rw [show okN x = true from decide_eq_true (by omega)] at this
               exact this
             go_wp2
             go_roundw
             case rel => exact ⟨k + 1, ⟨by go_num, by omega⟩, hqf, by first | trivial | rfl⟩
             case measure => simp [intOf]; omega)
      · have dn1 : decide (97 ≤ x) = false := by simp; omega
        have dn2 : decide ((97 : Int) ≤ (x : Int)) = false := by simp; omega
        have dn3 : decide (48 ≤ x) = false := by simp; omega
        have dn4 : decide ((48 : Int) ≤ (x : Int)) = false := by simp; omega
        have dn5 : decide (x ≤ 122) = true := by simp; omega
        have dn6 : decide ((x : Int) ≤ 122) = true := by simp; omega
        have dn7 : decide (x ≤ 57) = true := by simp; omega
        have dn8 : decide ((x : Int) ≤ 57) = true := by simp; omega
        have dn9 : (x == 45) = false := by simp; omega
        have dn10 : ((x : Int) == 45) = false := by simp; omega
        have dn11 : (x == 46) = false := by simp; omega
        have dn12 : ((x : Int) == 46) = false := by simp; omega
        first
          | (have hqf : q = false := by rw [← HNN.out, show okN x = false from decide_eq_false (by omega)]; rfl
             go_wp2
             go_ret
             exact ⟨by first | rfl | (rw [hqf]; rfl), rfl⟩)
          | (have hqf : Hid (okL ((bl s).drop (k + 1)) = q) := by
               have := HNN.out
               rw [show okN x = true from decide_eq_true (by omega)] at this
               exact this
             go_wp2
             go_roundw
             case rel => exact ⟨k + 1, ⟨by go_num, by omega⟩, hqf, by first | trivial | rfl⟩
             case measure => simp [intOf]; omega)
      · have dn1 : decide (97 ≤ x) = false := by simp; omega
        have dn2 : decide ((97 : Int) ≤ (x : Int)) = false := by simp; omega
        have dn3 : decide (48 ≤ x) = true := by simp; omega
        have dn4 : decide ((48 : Int) ≤ (x : Int)) = true := by simp; omega
        have dn5 : decide (x ≤ 122) = true := by simp; omega
        have dn6 : decide ((x : Int) ≤ 122) = true := by simp; omega
        have dn7 : decide (x ≤ 57) = true := by simp; omega
        have dn8 : decide ((x : Int) ≤ 57) = true := by simp; omega
        have dn9 : (x == 45) = false := by simp; omega
        have dn10 : ((x : Int) == 45) = false := by simp; omega
        have dn11 : (x == 46) = false := by simp; omega
        have dn12 : ((x : Int) == 46) = false := by simp; omega
        first
          | (have hqf : q = false := by rw [← HNN.out, show okN x = false from decide_eq_false (by omega)]; rfl
             go_wp2
             go_ret
             exact ⟨by first | rfl | (rw [hqf]; rfl), rfl⟩)
          | (have hqf : Hid (okL ((bl s).drop (k + 1)) = q) := by
               have := HNN.out
               rw [show okN x = true from decide_eq_true (by omega)] at this
               exact this
             go_wp2
             go_roundw
             case rel => exact ⟨k + 1, ⟨by go_num, by omega⟩, hqf, by first | trivial | rfl⟩
             case measure => simp [intOf]; omega)
      · have dn1 : decide (97 ≤ x) = false := by simp; omega
        have dn2 : decide ((97 : Int) ≤ (x : Int)) = false := by simp; omega
        have dn3 : decide (48 ≤ x) = true := by simp; omega
        have dn4 : decide ((48 : Int) ≤ (x : Int)) = true := by simp; omega
        have dn5 : decide (x ≤ 122) = true := by simp; omega
        have dn6 : decide ((x : Int) ≤ 122) = true := by simp; omega
        have dn7 : decide (x ≤ 57) = false := by simp; omega
        have dn8 : decide ((x : Int) ≤ 57) = false := by simp; omega
        have dn9 : (x == 45) = false := by simp; omega
        have dn10 : ((x : Int) == 45) = false := by simp; omega
        have dn11 : (x == 46) = false := by simp; omega
        have dn12 : ((x : Int) == 46) = false := by simp; omega
        first
          | (have hqf : q = false := by rw [← HNN.out, show okN x = false from decide_eq_false (by omega)]; rfl
             go_wp2
             go_ret
             exact ⟨by first | rfl | (rw [hqf]; rfl), rfl⟩)
          | (have hqf : Hid (okL ((bl s).drop (k + 1)) = q) := by
               have := HNN.out
               rw [show okN x = true from decide_eq_true (by omega)] at this
               exact this
             go_wp2
             go_roundw
             case rel => exact ⟨k + 1, ⟨by go_num, by omega⟩, hqf, by first | trivial | rfl⟩
             case measure => simp [intOf]; omega)
      · have dn1 : decide (97 ≤ x) = true := by simp; omega
        have dn2 : decide ((97 : Int) ≤ (x : Int)) = true := by simp; omega
        have dn3 : decide (48 ≤ x) = true := by simp; omega
        have dn4 : decide ((48 : Int) ≤ (x : Int)) = true := by simp; omega
        have dn5 : decide (x ≤ 122) = true := by simp; omega
        have dn6 : decide ((x : Int) ≤ 122) = true := by simp; omega
        have dn7 : decide (x ≤ 57) = false := by simp; omega
        have dn8 : decide ((x : Int) ≤ 57) = false := by simp; omega
        have dn9 : (x == 45) = false := by simp; omega
        have dn10 : ((x : Int) == 45) = false := by simp; omega
        have dn11 : (x == 46) = false := by simp; omega
        have dn12 : ((x : Int) == 46) = false := by simp; omega
        first
          | (have hqf : q = false := by rw [← HNN.out, show okN x = false from decide_eq_false (by omega)]; rfl
             go_wp2
             go_ret
             exact ⟨by first | rfl | (rw [hqf]; rfl), rfl⟩)
          | (have hqf : Hid (okL ((bl s).drop (k + 1)) = q) := by
               have := HNN.out
               rw [show okN x = true from decide_eq_true (by omega)] at this
               exact this
             go_wp2
             go_roundw
             case rel => exact ⟨k + 1, ⟨by go_num, by omega⟩, hqf, by first | trivial | rfl⟩
             case measure => simp [intOf]; omega)
      · have dn1 : decide (97 ≤ x) = true := by simp; omega
        have dn2 : decide ((97 : Int) ≤ (x : Int)) = true := by simp; omega
        have dn3 : decide (48 ≤ x) = true := by simp; omega
        have dn4 : decide ((48 : Int) ≤ (x : Int)) = true := by simp; omega
        have dn5 : decide (x ≤ 122) = false := by simp; omega
        have dn6 : decide ((x : Int) ≤ 122) = false := by simp; omega
        have dn7 : decide (x ≤ 57) = false := by simp; omega
        have dn8 : decide ((x : Int) ≤ 57) = false := by simp; omega
        have dn9 : (x == 45) = false := by simp; omega
        have dn10 : ((x : Int) == 45) = false := by simp; omega
        have dn11 : (x == 46) = false := by simp; omega
        have dn12 : ((x : Int) == 46) = false := by simp; omega
        first
          | (have hqf : q = false := by rw [← HNN.out, show okN x = false from decide_eq_false (by omega)]; rfl
             go_wp2
             go_ret
             exact ⟨by first | rfl | (rw [hqf]; rfl), rfl⟩)
          | (have hqf : Hid (okL ((bl s).drop (k + 1)) = q) := by
               have := HNN.out
               rw [show okN x = true from decide_eq_true (by omega)] at this
               exact this
             go_wp2
             go_roundw
             case rel => exact ⟨k + 1, ⟨by go_num, by omega⟩, hqf, by first | trivial | rfl⟩
             case measure => simp [intOf]; omega)
    · have d0 : decide (k < s.size) = false := decide_eq_false hlt
      have d0' : decide ((k : Int) < (s.size : Int)) = false := decide_eq_false (by omega)
      have hqt : q = true := by
        rw [← hno.out, List.drop_eq_nil_of_le (by rw [HL.out]; omega)]; rfl
      clear hno hget hgl
      by_cases h1 : 1 ≤ s.size
      · have e1 : decide (1 ≤ s.size) = true := decide_eq_true h1
        have e1' : decide ((1 : Int) ≤ (s.size : Int)) = true := decide_eq_true (by omega)
        by_cases h2 : s.size ≤ 64
        · have e2 : decide (s.size ≤ 64) = true := decide_eq_true h2
          have e2' : decide ((s.size : Int) ≤ 64) = true := decide_eq_true (by omega)
          go_wp2
          go_ret
          exact ⟨by first | rfl | (rw [hqt, e1, e2]; rfl), rfl⟩
        · have e2 : decide (s.size ≤ 64) = false := decide_eq_false h2
          have e2' : decide ((s.size : Int) ≤ 64) = false := decide_eq_false (by omega)
          go_wp2
          go_ret
          exact ⟨by first | rfl | (rw [hqt, e1, e2]; rfl), rfl⟩
      · have e1 : decide (1 ≤ s.size) = false := decide_eq_false h1
        have e1' : decide ((1 : Int) ≤ (s.size : Int)) = false := decide_eq_false (by omega)
        go_wp2
        go_ret
        exact ⟨by first | rfl | (rw [hqt, e1]; rfl), rfl⟩
theorem okN_no (c : Nat) (h : 128 ≤ c) : okN c = false := decide_eq_false (by omega)
set_option maxRecDepth 100000 in
set_option maxHeartbeats 8000000 in
/-- **disk.Name** -/
theorem dname_any (s : ByteArray) (hm : s.size ≤ 1000000) (w : World) :
    Calls Try.prog 5 #[.string s] w fun e w' => e = .returned (.bool (dnameB s)) ∧ Below w.heap.size w w' := by
  have hlen : (bl s).length = s.size := bl_len s
  obtain ⟨q, hq⟩ : ∃ q, okL (bl s) = q := ⟨_, rfl⟩
  have hte : dnameB s = (q && decide (1 ≤ s.size) && decide (s.size ≤ 64)) := by unfold dnameB; rw [hq]
  have hq0 : Hid (okL ((bl s).drop 0) = q) := hq
  rw [hte]
  have hst := fun k (hk : k < s.size) => okL_drop (bl s) k (by rw [hlen]; exact hk)
  have HST := Lib.hid hst
  have HL := Lib.hid hlen
  clear hte hq hst hlen
  have hbel : ∀ pos, Below w.heap.size w (w.iter s pos) := fun pos => (Below.refl _ w).alloc (Nat.le_refl _) _
  have HBEL := Lib.hid hbel
  clear hbel
  go_enter Try.func5, Try.ntmps5
  go_wp2
  go_loopw [] (fun w' => ∃ pos : Nat, w' = w.iter s pos ∧ pos ≤ s.size ∧ Hid (okL ((bl s).drop pos) = q)) (fun w' => s.size - w'.iterPos w.heap.size)
  case atStart => exact ⟨0, rfl, Nat.zero_le _, hq0⟩
  case round =>
    clear hq0
    obtain ⟨pos, rfl, hps, hno⟩ := hrel
    by_cases hp : pos < s.size
    · have hnx : ∀ ty, (Instr.next (.pointer (some ⟨w.heap.size, 0, none⟩)) true ty).run Try.prog (w.iter s pos) = _ := fun ty => run_next_any w s pos ty hp
      have hgk : (s[pos]'hp).toNat = gb (bl s) pos := by have := bl_get s pos hp; omega
      have h1 := HST.out pos hp
      by_cases ha : (s[pos]'hp).toNat < 128
      · rw [decode_ascii s pos hp ha] at hnx
        obtain ⟨x, hxe⟩ : ∃ x, (s[pos]'hp).toNat = x := ⟨_, rfl⟩
        rw [← hgk, hxe] at h1
        rw [hxe] at hnx ha
        have hnn := hno.out
        rw [h1] at hnn
        have HNN := Lib.hid hnn
        have hx' : x < 256 := by omega
        clear h1 hgk hxe hnn hno
        rcases (by omega : (x < 45) ∨ (45 ≤ x ∧ x < 46) ∨ (46 ≤ x ∧ x < 47) ∨ (47 ≤ x ∧ x < 48) ∨ (48 ≤ x ∧ x < 58) ∨ (58 ≤ x ∧ x < 97) ∨ (97 ≤ x ∧ x < 123) ∨ (123 ≤ x)) with hr | hr | hr | hr | hr | hr | hr | hr
        · have dn1 : decide (x < 97) = true := by simp; omega
          have dn2 : decide ((x : Int) < 97) = true := by simp; omega
          have dn3 : decide (x < 48) = true := by simp; omega
          have dn4 : decide ((x : Int) < 48) = true := by simp; omega
          have dn5 : decide (122 < x) = false := by simp; omega
          have dn6 : decide ((122 : Int) < (x : Int)) = false := by simp; omega
          have dn7 : decide (57 < x) = false := by simp; omega
          have dn8 : decide ((57 : Int) < (x : Int)) = false := by simp; omega
          have dn9 : (x != 45) = true := by simp; omega
          have dn10 : ((x : Int) != 45) = true := by simp; omega
          have dn11 : (x != 46) = true := by simp; omega
          have dn12 : ((x : Int) != 46) = true := by simp; omega
          first
            | (have hqf : q = false := by rw [← HNN.out, show okN x = false from decide_eq_false (by omega)]; rfl
               go_wp2
               go_ret
               exact ⟨by first | rfl | (rw [hqf]; rfl), HBEL.out _⟩)
            | (have hqf : Hid (okL ((bl s).drop (pos + 1)) = q) := by
                 have := HNN.out
                 rw [show okN x = true from decide_eq_true (by omega)] at this
                 exact this
               go_wp2
               go_roundw
               case rel => exact ⟨pos + 1, rfl, by omega, hqf⟩
               case measure => simp; omega)
        · have dn1 : decide (x < 97) = true := by simp; omega
          have dn2 : decide ((x : Int) < 97) = true := by simp; omega
          have dn3 : decide (x < 48) = true := by simp; omega
          have dn4 : decide ((x : Int) < 48) = true := by simp; omega
          have dn5 : decide (122 < x) = false := by simp; omega
          have dn6 : decide ((122 : Int) < (x : Int)) = false := by simp; omega
          have dn7 : decide (57 < x) = false := by simp; omega
          have dn8 : decide ((57 : Int) < (x : Int)) = false := by simp; omega
          have dn9 : (x != 45) = false := by simp; omega
          have dn10 : ((x : Int) != 45) = false := by simp; omega
          have dn11 : (x != 46) = true := by simp; omega
          have dn12 : ((x : Int) != 46) = true := by simp; omega
          first
            | (have hqf : q = false := by rw [← HNN.out, show okN x = false from decide_eq_false (by omega)]; rfl
               go_wp2
               go_ret
               exact ⟨by first | rfl | (rw [hqf]; rfl), HBEL.out _⟩)
            | (have hqf : Hid (okL ((bl s).drop (pos + 1)) = q) := by
                 have := HNN.out
                 rw [show okN x = true from decide_eq_true (by omega)] at this
                 exact this
               go_wp2
               go_roundw
               case rel => exact ⟨pos + 1, rfl, by omega, hqf⟩
               case measure => simp; omega)
        · have dn1 : decide (x < 97) = true := by simp; omega
          have dn2 : decide ((x : Int) < 97) = true := by simp; omega
          have dn3 : decide (x < 48) = true := by simp; omega
          have dn4 : decide ((x : Int) < 48) = true := by simp; omega
          have dn5 : decide (122 < x) = false := by simp; omega
          have dn6 : decide ((122 : Int) < (x : Int)) = false := by simp; omega
          have dn7 : decide (57 < x) = false := by simp; omega
          have dn8 : decide ((57 : Int) < (x : Int)) = false := by simp; omega
          have dn9 : (x != 45) = true := by simp; omega
          have dn10 : ((x : Int) != 45) = true := by simp; omega
          have dn11 : (x != 46) = false := by simp; omega
          have dn12 : ((x : Int) != 46) = false := by simp; omega
          first
            | (have hqf : q = false := by rw [← HNN.out, show okN x = false from decide_eq_false (by omega)]; rfl
               go_wp2
               go_ret
               exact ⟨by first | rfl | (rw [hqf]; rfl), HBEL.out _⟩)
            | (have hqf : Hid (okL ((bl s).drop (pos + 1)) = q) := by
                 have := HNN.out
                 rw [show okN x = true from decide_eq_true (by omega)] at this
                 exact this
               go_wp2
               go_roundw
               case rel => exact ⟨pos + 1, rfl, by omega, hqf⟩
               case measure => simp; omega)
        · have dn1 : decide (x < 97) = true := by simp; omega
          have dn2 : decide ((x : Int) < 97) = true := by simp; omega
          have dn3 : decide (x < 48) = true := by simp; omega
          have dn4 : decide ((x : Int) < 48) = true := by simp; omega
          have dn5 : decide (122 < x) = false := by simp; omega
          have dn6 : decide ((122 : Int) < (x : Int)) = false := by simp; omega
          have dn7 : decide (57 < x) = false := by simp; omega
          have dn8 : decide ((57 : Int) < (x : Int)) = false := by simp; omega
          have dn9 : (x != 45) = true := by simp; omega
          have dn10 : ((x : Int) != 45) = true := by simp; omega
          have dn11 : (x != 46) = true := by simp; omega
          have dn12 : ((x : Int) != 46) = true := by simp; omega
          first
            | (have hqf : q = false := by rw [← HNN.out, show okN x = false from decide_eq_false (by omega)]; rfl
               go_wp2
               go_ret
               exact ⟨by first | rfl | (rw [hqf]; rfl), HBEL.out _⟩)
            | (have hqf : Hid (okL ((bl s).drop (pos + 1)) = q) := by
                 have := HNN.out
                 rw [show okN x = true from decide_eq_true (by omega)] at this
                 exact this
               go_wp2
               go_roundw
               case rel => exact ⟨pos + 1, rfl, by omega, hqf⟩
               case measure => simp; omega)
        · have dn1 : decide (x < 97) = true := by simp; omega
          have dn2 : decide ((x : Int) < 97) = true := by simp; omega
          have dn3 : decide (x < 48) = false := by simp; omega
          have dn4 : decide ((x : Int) < 48) = false := by simp; omega
          have dn5 : decide (122 < x) = false := by simp; omega
          have dn6 : decide ((122 : Int) < (x : Int)) = false := by simp; omega
          have dn7 : decide (57 < x) = false := by simp; omega
          have dn8 : decide ((57 : Int) < (x : Int)) = false := by simp; omega
          have dn9 : (x != 45) = true := by simp; omega
          have dn10 : ((x : Int) != 45) = true := by simp; omega
          have dn11 : (x != 46) = true := by simp; omega
          have dn12 : ((x : Int) != 46) = true := by simp; omega
          first
            | (have hqf : q = false := by rw [← HNN.out, show okN x = false from decide_eq_false (by omega)]; rfl
               go_wp2
               go_ret
               exact ⟨by first | rfl | (rw [hqf]; rfl), HBEL.out _⟩)
            | (have hqf : Hid (okL ((bl s).drop (pos + 1)) = q) := by
                 have := HNN.out
                 rw [show okN x = true from decide_eq_true (by omega)] at this
                 exact this
               go_wp2
               go_roundw
               case rel => exact ⟨pos + 1, rfl, by omega, hqf⟩
               case measure => simp; omega)
        · have dn1 : decide (x < 97) = true := by simp; omega
          have dn2 : decide ((x : Int) < 97) = true := by simp; omega
          have dn3 : decide (x < 48) = false := by simp; omega
          have dn4 : decide ((x : Int) < 48) = false := by simp; omega
          have dn5 : decide (122 < x) = false := by simp; omega
          have dn6 : decide ((122 : Int) < (x : Int)) = false := by simp; omega
          have dn7 : decide (57 < x) = true := by simp; omega
          have dn8 : decide ((57 : Int) < (x : Int)) = true := by simp; omega
          have dn9 : (x != 45) = true := by simp; omega
          have dn10 : ((x : Int) != 45) = true := by simp; omega
          have dn11 : (x != 46) = true := by simp; omega
          have dn12 : ((x : Int) != 46) = true := by simp; omega
          first
            | (have hqf : q = false := by rw [← HNN.out, show okN x = false from decide_eq_false (by omega)]; rfl
               go_wp2
               go_ret
               exact ⟨by first | rfl | (rw [hqf]; rfl), HBEL.out _⟩)
            | (have hqf : Hid (okL ((bl s).drop (pos + 1)) = q) := by
                 have := HNN.out
                 rw [show okN x = true from decide_eq_true (by omega)] at this
                 exact this
               go_wp2
               go_roundw
               case rel => exact ⟨pos + 1, rfl, by omega, hqf⟩
               case measure => simp; omega)
        · have dn1 : decide (x < 97) = false := by simp; omega
          have dn2 : decide ((x : Int) < 97) = false := by simp; omega
          have dn3 : decide (x < 48) = false := by simp; omega
          have dn4 : decide ((x : Int) < 48) = false := by simp; omega
          have dn5 : decide (122 < x) = false := by simp; omega
          have dn6 : decide ((122 : Int) < (x : Int)) = false := by simp; omega
          have dn7 : decide (57 < x) = true := by simp; omega
          have dn8 : decide ((57 : Int) < (x : Int)) = true := by simp; omega
          have dn9 : (x != 45) = true := by simp; omega
          have dn10 : ((x : Int) != 45) = true := by simp; omega
          have dn11 : (x != 46) = true := by simp; omega
          have dn12 : ((x : Int) != 46) = true := by simp; omega
          first
            | (have hqf : q = false := by rw [← HNN.out, show okN x = false from decide_eq_false (by omega)]; rfl
               go_wp2
               go_ret
               exact ⟨by first | rfl | (rw [hqf]; rfl), HBEL.out _⟩)
            | (have hqf : Hid (okL ((bl s).drop (pos + 1)) = q) := by
                 have := HNN.out
                 rw [show okN x = true from decide_eq_true (by omega)] at this
                 exact this
               go_wp2
               go_roundw
               case rel => exact ⟨pos + 1, rfl, by omega, hqf⟩
               case measure => simp; omega)
        · have dn1 : decide (x < 97) = false := by simp; omega
          have dn2 : decide ((x : Int) < 97) = false := by simp; omega
          have dn3 : decide (x < 48) = false := by simp; omega
          have dn4 : decide ((x : Int) < 48) = false := by simp; omega
          have dn5 : decide (122 < x) = true := by simp; omega
          have dn6 : decide ((122 : Int) < (x : Int)) = true := by simp; omega
          have dn7 : decide (57 < x) = true := by simp; omega
          have dn8 : decide ((57 : Int) < (x : Int)) = true := by simp; omega
          have dn9 : (x != 45) = true := by simp; omega
          have dn10 : ((x : Int) != 45) = true := by simp; omega
          have dn11 : (x != 46) = true := by simp; omega
          have dn12 : ((x : Int) != 46) = true := by simp; omega
          first
            | (have hqf : q = false := by rw [← HNN.out, show okN x = false from decide_eq_false (by omega)]; rfl
               go_wp2
               go_ret
               exact ⟨by first | rfl | (rw [hqf]; rfl), HBEL.out _⟩)
            | (have hqf : Hid (okL ((bl s).drop (pos + 1)) = q) := by
                 have := HNN.out
                 rw [show okN x = true from decide_eq_true (by omega)] at this
                 exact this
               go_wp2
               go_roundw
               case rel => exact ⟨pos + 1, rfl, by omega, hqf⟩
               case measure => simp; omega)
      · obtain ⟨hd1, hd2⟩ := decode_high s pos hp (by omega)
        obtain ⟨r, hr⟩ : ∃ r, (Utf8.decode s pos).1 = r := ⟨_, rfl⟩
        obtain ⟨wd, hwd⟩ : ∃ wd, (Utf8.decode s pos).2 = wd := ⟨_, rfl⟩
        rw [hr] at hd1
        simp only [hr, hwd] at hnx
        have hqf : q = false := by
          have := hno.out
          rw [h1, ← hgk, okN_no _ (by omega)] at this
          exact this.symm
        have r1 : decide (r < 97) = false := decide_eq_false (by omega)
        have r1' : decide ((r : Int) < 97) = false := decide_eq_false (by omega)
        have r2 : decide (122 < r) = true := decide_eq_true (by omega)
        have r2' : decide ((122 : Int) < (r : Int)) = true := decide_eq_true (by omega)
        have r3 : decide (r < 48) = false := decide_eq_false (by omega)
        have r3' : decide ((r : Int) < 48) = false := decide_eq_false (by omega)
        have r4 : decide (57 < r) = true := decide_eq_true (by omega)
        have r4' : decide ((57 : Int) < (r : Int)) = true := decide_eq_true (by omega)
        have r5 : (r != 45) = true := by simp; omega
        have r5' : ((r : Int) != 45) = true := by simp; omega
        have r6 : (r != 46) = true := by simp; omega
        have r6' : ((r : Int) != 46) = true := by simp; omega
        clear hr hwd h1 hgk hno hd1
        go_wp2
        go_ret
        exact ⟨by first | rfl | (rw [hqf]; rfl), HBEL.out _⟩
    · have hnx : ∀ ty, (Instr.next (.pointer (some ⟨w.heap.size, 0, none⟩)) true ty).run Try.prog (w.iter s pos) = _ := fun ty => run_next_end w s pos ty hp
      have hqt : q = true := by
        rw [← hno.out, List.drop_eq_nil_of_le (by rw [HL.out]; omega)]; rfl
      clear hno
      by_cases h1 : 1 ≤ s.size
      · have e1 : decide (1 ≤ s.size) = true := decide_eq_true h1
        have e1' : decide ((0 : Int) < (s.size : Int)) = true := decide_eq_true (by omega)
        have e1'' : decide (0 < s.size) = true := decide_eq_true (by omega)
        by_cases h2 : s.size ≤ 64
        · have e2 : decide (s.size ≤ 64) = true := decide_eq_true h2
          have e2' : decide ((s.size : Int) ≤ 64) = true := decide_eq_true (by omega)
          go_wp2
          go_ret
          exact ⟨by first | rfl | (rw [hqt, e1, e2]; rfl), HBEL.out _⟩
        · have e2 : decide (s.size ≤ 64) = false := decide_eq_false h2
          have e2' : decide ((s.size : Int) ≤ 64) = false := decide_eq_false (by omega)
          go_wp2
          go_ret
          exact ⟨by first | rfl | (rw [hqt, e1, e2]; rfl), HBEL.out _⟩
      · have e1 : decide (1 ≤ s.size) = false := decide_eq_false h1
        have e1' : decide ((0 : Int) < (s.size : Int)) = false := decide_eq_false (by omega)
        have e1'' : decide (0 < s.size) = false := decide_eq_false (by omega)
        go_wp2
        go_ret
        exact ⟨by first | rfl | (rw [hqt, e1]; rfl), HBEL.out _⟩
end Go.Proofs.Ytbcnalabalegfaa

/- The laws of law07. -/
import Derived.RangeFuncNested
import Derived.RangeFuncBound
import Derived.RangeFuncCalls
import Derived.RangeFuncLeaves
import Derived.Shelf.Abstract
import Derived.Shelf.RegionOpen
import Derived.WalkKit
import Derived.OwnWalkIn
import Derived.TacticsInMore
import Derived.LoopNIn
import Derived.LoopIn
import Derived.Outline
import Derived.Lib.Hide
import Derived.Lib.SliceRun
import Derived.IntWalk
import Derived.WalkLawsBesides
import Derived.WalkSpells
import Derived.Laws.BitsAllLaws
import Derived.Lib.ConvBytes
import Derived.Maps.AppendAt
import Derived.Lib.AppendStr
import Derived.Lib.SlBytesConst
import Derived.Laws.AppendOwnNone
import Derived.Laws.OwnMore
import Derived.Laws.BytesArg
import Derived.Deep.RegionHeld3
import Derived.BigQuiet
import Derived.Deep.RegionLaw
import Derived.Deep.QuietTactic
import Derived.Lib.OthersKept
import Derived.Test.YtofdfcngmkkfdaaProg
import Derived.Deep.DeepFit
import Derived.Test.YtofdfcngmkkfdaaPtM
set_option linter.unusedVariables false
set_option linter.unusedSimpArgs false
namespace Go.Proofs.Ytofdfcngmkkfdaa
open Go Go.RowKit Go.Shelf

set_option maxRecDepth 100000 in
set_option maxHeartbeats 2000000 in
theorem awake07_any (w : World) : Calls Try.prog 18 #[] w fun e w' => e = .returned (.bool true) ∧ Below w.heap.size w w' := by
  have h1 : ∀ w, Calls Try.prog 23 #[.string ⟨#[60, 97, 46, 98, 64, 120, 46, 111, 114, 103, 62, 32, 83, 73, 90, 69, 61, 53]⟩] w fun e w' => e = .returned (.tuple #[.string ⟨#[97, 46, 98, 64, 120, 46, 111, 114, 103]⟩, .string ⟨#[32, 83, 73, 90, 69, 61, 53]⟩, .bool true]) ∧ Below w.heap.size w w' := fun w => by
    have := parse_any ⟨#[60, 97, 46, 98, 64, 120, 46, 111, 114, 103, 62, 32, 83, 73, 90, 69, 61, 53]⟩ (by unfold maxLen; decide) w
    rw [show parA (bl ⟨#[60, 97, 46, 98, 64, 120, 46, 111, 114, 103, 62, 32, 83, 73, 90, 69, 61, 53]⟩) = [97, 46, 98, 64, 120, 46, 111, 114, 103] by decide +kernel,
      show parR (bl ⟨#[60, 97, 46, 98, 64, 120, 46, 111, 114, 103, 62, 32, 83, 73, 90, 69, 61, 53]⟩) = [32, 83, 73, 90, 69, 61, 53] by decide +kernel,
      show parB (bl ⟨#[60, 97, 46, 98, 64, 120, 46, 111, 114, 103, 62, 32, 83, 73, 90, 69, 61, 53]⟩) = true by decide +kernel] at this
    exact this
  have h2 : ∀ w, Calls Try.prog 19 #[.string ⟨#[97, 46, 46, 98, 64, 120]⟩] w fun e w' => e = .returned (.bool false) ∧ Below w.heap.size w w' := fun w => by
    have := mailbox_any ⟨#[97, 46, 46, 98, 64, 120]⟩ (by unfold maxLen; decide) w
    rw [show mailB (bl ⟨#[97, 46, 46, 98, 64, 120]⟩) = false by decide +kernel] at this
    exact this
  have h3 : ∀ w, Calls Try.prog 19 #[.string ⟨#[97, 64, 120]⟩] w fun e w' => e = .returned (.bool true) ∧ Below w.heap.size w w' := fun w => by
    have := mailbox_any ⟨#[97, 64, 120]⟩ (by unfold maxLen; decide) w
    rw [show mailB (bl ⟨#[97, 64, 120]⟩) = true by decide +kernel] at this
    exact this
  have H1 := Lib.hid h1
  have H2 := Lib.hid h2
  have H3 := Lib.hid h3
  have q1 : ((⟨#[97, 46, 98, 64, 120, 46, 111, 114, 103]⟩ : ByteArray).toList == (⟨#[97, 46, 98, 64, 120, 46, 111, 114, 103]⟩ : ByteArray).toList) = true := beq_self_eq_true _
  have q2 : ((⟨#[32, 83, 73, 90, 69, 61, 53]⟩ : ByteArray).toList == (⟨#[32, 83, 73, 90, 69, 61, 53]⟩ : ByteArray).toList) = true := beq_self_eq_true _
  clear h1 h2 h3
  go_enter Try.func18, Try.ntmps18
  go_wp2_with fail
  refine (H1.out _).mono ?_
  rintro e w1 ⟨rfl, b1⟩
  go_wp2_with fail
  refine (H2.out _).mono ?_
  rintro e w2 ⟨rfl, b2⟩
  go_wp2_with fail
  refine (H3.out _).mono ?_
  rintro e w3 ⟨rfl, b3⟩
  have hb := b1.trans ((b2.trans (b3.mono b2.size)).mono b1.size)
  clear b1 b2 b3
  go_wp2
  go_ret
  exact ⟨rfl, hb⟩
theorem show_any (s : ByteArray) (hm : s.size ≤ 1000000) (w : World) : Calls Try.prog 25 #[.string s] w fun e w' => e = .returned (.string (⟨#[60]⟩ ++ s ++ ⟨#[62]⟩)) ∧ w' = w := by
  have h1 : ¬ (9223372036854775807 : Int) < (((⟨#[60]⟩ : ByteArray).size + s.size : Nat) : Int) := by have : (⟨#[60]⟩ : ByteArray).size = 1 := rfl; omega
  have h2 : ((⟨#[60]⟩ : ByteArray) ++ s).size = 1 + s.size := by rw [ByteArray.size_append]; rfl
  have h3 : (⟨#[62]⟩ : ByteArray).size = 1 := rfl
  have h4 : (⟨#[60]⟩ : ByteArray).size = 1 := rfl
  have k1 := fun w => run_string_add_sum (P := Try.prog) w ⟨#[60]⟩ s (by omega)
  have k2 := fun w => run_string_add_sum (P := Try.prog) w (⟨#[60]⟩ ++ s) ⟨#[62]⟩ (by omega)
  clear h1 h2 h3 h4
  go_enter Try.func25, Try.ntmps25
  go_wp2
  go_ret
  exact ⟨rfl, rfl⟩
set_option maxRecDepth 100000 in
set_option maxHeartbeats 2000000 in
theorem pathMailboxes_walk (s : ByteArray) (w : World) (hm : s.size ≤ maxLen) :
    Calls Try.prog 3 #[.string s] w fun e w' => e = .returned (.bool true) ∧ Below w.heap.size w w' := by
  by_cases h : 400 < s.size
  · have d1 : decide ((400 : Int) < (s.size : Int)) = true := decide_eq_true (by omega)
    have d2 : decide (400 < s.size) = true := decide_eq_true h
    go_enter Try.func3, Try.ntmps3
    go_wp2_with fail
    refine (awake07_any _).mono ?_
    rintro e w1 ⟨rfl, b1⟩
    go_wp2
    go_ret
    exact ⟨rfl, b1⟩
  · have d1 : decide ((400 : Int) < (s.size : Int)) = false := decide_eq_false (by omega)
    have d2 : decide (400 < s.size) = false := decide_eq_false h
    have h1 := fun w => mailbox_any s hm w
    have h2 := fun w => rmailbox_any s hm w
    have h3 := fun w => domain_any s hm w
    have h4 := fun w => rdomain_any s hm w
    obtain ⟨x, hx⟩ : ∃ x, mailB (bl s) = x := ⟨_, rfl⟩
    obtain ⟨y, hy⟩ : ∃ y, domB (bl s) = y := ⟨_, rfl⟩
    simp only [hx] at h1 h2
    simp only [hy] at h3 h4
    have H1 := Lib.hid h1
    have H2 := Lib.hid h2
    have H3 := Lib.hid h3
    have H4 := Lib.hid h4
    clear h1 h2 h3 h4 hx hy
    have ex : (x == x) = true := beq_self_eq_true _
    have ey : (y == y) = true := beq_self_eq_true _
    go_enter Try.func3, Try.ntmps3
    go_wp2_with fail
    refine (awake07_any _).mono ?_
    rintro e w1 ⟨rfl, b1⟩
    go_wp2_with fail
    refine (H1.out _).mono ?_
    rintro e w2 ⟨rfl, b2⟩
    go_wp2_with fail
    refine (H2.out _).mono ?_
    rintro e w3 ⟨rfl, b3⟩
    go_wp2_with fail
    refine (H3.out _).mono ?_
    rintro e w4 ⟨rfl, b4⟩
    go_wp2_with fail
    refine (H4.out _).mono ?_
    rintro e w5 ⟨rfl, b5⟩
    have c1 := b1.trans (b2.mono b1.size)
    have c2 := c1.trans (b3.mono c1.size)
    have c3 := c2.trans (b4.mono c2.size)
    have c4 := c3.trans (b5.mono c3.size)
    clear c1 c2 c3 b1 b2 b3 b4 b5
    go_wp2
    go_ret
    exact ⟨rfl, c4⟩
set_option maxRecDepth 100000 in
set_option maxHeartbeats 2000000 in
theorem pathParses_walk (s : ByteArray) (w : World) (hm : s.size ≤ maxLen) :
    Calls Try.prog 4 #[.string s] w fun e w' => e = .returned (.bool true) ∧ Below w.heap.size w w' := by
  by_cases h : 400 < s.size
  · have d1 : decide ((400 : Int) < (s.size : Int)) = true := decide_eq_true (by omega)
    have d2 : decide (400 < s.size) = true := decide_eq_true h
    go_enter Try.func4, Try.ntmps4
    go_wp2_with fail
    refine (awake07_any _).mono ?_
    rintro e w1 ⟨rfl, b1⟩
    go_wp2
    go_ret
    exact ⟨rfl, b1⟩
  · have d1 : decide ((400 : Int) < (s.size : Int)) = false := decide_eq_false (by omega)
    have d2 : decide (400 < s.size) = false := decide_eq_false h
    have h1 := fun w => parse_any s hm w
    have h2 := fun w => rparse_any s hm w
    obtain ⟨x, hx⟩ : ∃ x : ByteArray, St (parA (bl s)) = .string x := ⟨_, rfl⟩
    obtain ⟨y, hy⟩ : ∃ x : ByteArray, St (parR (bl s)) = .string x := ⟨_, rfl⟩
    obtain ⟨z, hz⟩ : ∃ z, parB (bl s) = z := ⟨_, rfl⟩
    simp only [hx, hy, hz] at h1 h2
    have H1 := Lib.hid h1
    have H2 := Lib.hid h2
    clear h1 h2 hx hy hz
    have ex : (x.toList == x.toList) = true := beq_self_eq_true _
    have ey : (y.toList == y.toList) = true := beq_self_eq_true _
    have ez : (z == z) = true := beq_self_eq_true _
    go_enter Try.func4, Try.ntmps4
    go_wp2_with fail
    refine (awake07_any _).mono ?_
    rintro e w1 ⟨rfl, b1⟩
    go_wp2_with fail
    refine (H1.out _).mono ?_
    rintro e w2 ⟨rfl, b2⟩
    go_wp2_with fail
    refine (H2.out _).mono ?_
    rintro e w3 ⟨rfl, b3⟩
    have c1 := b1.trans (b2.mono b1.size)
    have c2 := c1.trans (b3.mono c1.size)
    clear c1 b1 b2 b3
    go_wp2
    go_ret
    exact ⟨rfl, c2⟩
set_option maxRecDepth 100000 in
set_option maxHeartbeats 2000000 in
theorem pathParts_walk (s : ByteArray) (w : World) (hm : s.size ≤ maxLen) :
    Calls Try.prog 11 #[.string s] w fun e w' => e = .returned (.bool true) ∧ Below w.heap.size w w' := by
  by_cases h : 400 < s.size
  · have d1 : decide ((400 : Int) < (s.size : Int)) = true := decide_eq_true (by omega)
    have d2 : decide (400 < s.size) = true := decide_eq_true h
    go_enter Try.func11, Try.ntmps11
    go_wp2_with fail
    refine (awake07_any _).mono ?_
    rintro e w1 ⟨rfl, b1⟩
    go_wp2
    go_ret
    exact ⟨rfl, b1⟩
  · have d1 : decide ((400 : Int) < (s.size : Int)) = false := decide_eq_false (by omega)
    have d2 : decide (400 < s.size) = false := decide_eq_false h
    have h1 := fun w => of_any s hm w
    have h2 := fun w => rof_any s hm w
    have h3 := fun w => show_any s (by omega) w
    obtain ⟨x, hx⟩ : ∃ x : ByteArray, St (ofA (bl s)) = .string x := ⟨_, rfl⟩
    obtain ⟨y, hy⟩ : ∃ x : ByteArray, St (ofD (bl s)) = .string x := ⟨_, rfl⟩
    simp only [hx, hy] at h1 h2
    have H1 := Lib.hid h1
    have H2 := Lib.hid h2
    have H3 := Lib.hid h3
    clear h1 h2 h3 hx hy
    have ex : (x.toList == x.toList) = true := beq_self_eq_true _
    have ey : (y.toList == y.toList) = true := beq_self_eq_true _
    have h2 : ((⟨#[60]⟩ : ByteArray) ++ s).size = 1 + s.size := by rw [ByteArray.size_append]; rfl
    have h3 : (⟨#[62]⟩ : ByteArray).size = 1 := rfl
    have h4 : (⟨#[60]⟩ : ByteArray).size = 1 := rfl
    have k1 := fun w => run_string_add_sum (P := Try.prog) w ⟨#[60]⟩ s (by omega)
    have k2 := fun w => run_string_add_sum (P := Try.prog) w (⟨#[60]⟩ ++ s) ⟨#[62]⟩ (by omega)
    have ez : (((⟨#[60]⟩ : ByteArray) ++ s ++ ⟨#[62]⟩).toList == ((⟨#[60]⟩ : ByteArray) ++ s ++ ⟨#[62]⟩).toList) = true := beq_self_eq_true _
    clear h2 h3 h4
    go_enter Try.func11, Try.ntmps11
    go_wp2_with fail
    refine (awake07_any _).mono ?_
    rintro e w1 ⟨rfl, b1⟩
    go_wp2_with fail
    refine (H1.out _).mono ?_
    rintro e w2 ⟨rfl, b2⟩
    go_wp2_with fail
    refine (H2.out _).mono ?_
    rintro e w3 ⟨rfl, b3⟩
    go_wp2_with fail
    refine (H3.out _).mono ?_
    rintro e w' ⟨rfl, rfl⟩
    have c1 := b1.trans (b2.mono b1.size)
    have c2 := c1.trans (b3.mono c1.size)
    clear c1 b1 b2 b3
    go_wp2
    go_ret
    exact ⟨rfl, c2⟩
set_option maxRecDepth 100000 in
set_option maxHeartbeats 2000000 in
theorem pathFolds_walk (s : ByteArray) (w : World) (hm : s.size ≤ maxLen) :
    Calls Try.prog 12 #[.string s] w fun e w' => e = .returned (.bool true) ∧ Below w.heap.size w w' := by
  by_cases h : 400 < s.size
  · have d1 : decide ((400 : Int) < (s.size : Int)) = true := decide_eq_true (by omega)
    have d2 : decide (400 < s.size) = true := decide_eq_true h
    go_enter Try.func12, Try.ntmps12
    go_wp2_with fail
    refine (awake07_any _).mono ?_
    rintro e w1 ⟨rfl, b1⟩
    go_wp2
    go_ret
    exact ⟨rfl, b1⟩
  · have d1 : decide ((400 : Int) < (s.size : Int)) = false := decide_eq_false (by omega)
    have d2 : decide (400 < s.size) = false := decide_eq_false h
    have h1 := fun w => fold_any s hm w
    have h2 := fun w => rfold_any s hm w
    obtain ⟨x, hx⟩ : ∃ x : ByteArray, St (foldL (bl s)) = .string x := ⟨_, rfl⟩
    have hxb : bl x = foldL (bl s) := by rw [← Value.string.inj hx]; exact bl_mk _
    have hxs : x.size = s.size := by
      rw [← bl_len, hxb]
      by_cases h : lastB (bl s) 64 < 0
      · unfold foldL; rw [if_pos h, bl_len]
      · obtain ⟨n, hn⟩ : ∃ n : Nat, lastB (bl s) 64 = n := ⟨(lastB (bl s) 64).toNat, by omega⟩
        have hb := lastB_bound (bl s) 64
        rw [(gb_foldL (bl s) n hn (by omega)).2.1, bl_len]
    have h3 := fun w => fold_any x (by unfold maxLen; omega) w
    rw [hxb, foldL_twice] at h3
    have h4 := fun w => mailbox_any x (by unfold maxLen; omega) w
    rw [hxb, mailB_foldL] at h4
    have h5 := fun w => mailbox_any s hm w
    obtain ⟨z, hz⟩ : ∃ z, mailB (bl s) = z := ⟨_, rfl⟩
    simp only [hx, hz] at h1 h2 h3 h4 h5
    have H1 := Lib.hid h1
    have H2 := Lib.hid h2
    have H3 := Lib.hid h3
    have H4 := Lib.hid h4
    have H5 := Lib.hid h5
    clear h1 h2 h3 h4 h5 hx hz hxb hxs
    have ex : (x.toList == x.toList) = true := beq_self_eq_true _
    have ez : (z == z) = true := beq_self_eq_true _
    go_enter Try.func12, Try.ntmps12
    go_wp2_with fail
    refine (awake07_any _).mono ?_
    rintro e w1 ⟨rfl, b1⟩
    go_wp2_with fail
    refine (H1.out _).mono ?_
    rintro e w2 ⟨rfl, b2⟩
    go_wp2_with fail
    refine (H2.out _).mono ?_
    rintro e w3 ⟨rfl, b3⟩
    go_wp2_with fail
    refine (H3.out _).mono ?_
    rintro e w4 ⟨rfl, b4⟩
    go_wp2_with fail
    refine (H4.out _).mono ?_
    rintro e w5 ⟨rfl, b5⟩
    go_wp2_with fail
    refine (H5.out _).mono ?_
    rintro e w6 ⟨rfl, b6⟩
    have c1 := b1.trans (b2.mono b1.size)
    have c2 := c1.trans (b3.mono c1.size)
    have c3 := c2.trans (b4.mono c2.size)
    have c4 := c3.trans (b5.mono c3.size)
    have c5 := c4.trans (b6.mono c4.size)
    clear c1 c2 c3 c4 b1 b2 b3 b4 b5 b6
    go_wp2
    go_ret
    exact ⟨rfl, c5⟩
set_option maxRecDepth 100000 in
set_option maxHeartbeats 2000000 in
theorem pathBack_walk (s : ByteArray) (m : ByteArray) (w : World) (hm : s.size ≤ maxLen) (hmm : m.size ≤ maxLen) :
    Calls Try.prog 5 #[.string s, .string m] w fun e w' => e = .returned (.bool true) ∧ Below w.heap.size w w' := by
  by_cases h : 400 < s.size
  · have d1 : decide ((400 : Int) < (s.size : Int)) = true := decide_eq_true (by omega)
    have d2 : decide (400 < s.size) = true := decide_eq_true h
    go_enter Try.func5, Try.ntmps5
    go_wp2_with fail
    refine (awake07_any _).mono ?_
    rintro e w1 ⟨rfl, b1⟩
    go_wp2
    go_ret
    exact ⟨rfl, b1⟩
  have d1 : decide ((400 : Int) < (s.size : Int)) = false := decide_eq_false (by omega)
  have d2 : decide (400 < s.size) = false := decide_eq_false h
  by_cases h' : 400 < m.size
  · have d3 : decide ((400 : Int) < (m.size : Int)) = true := decide_eq_true (by omega)
    have d4 : decide (400 < m.size) = true := decide_eq_true h'
    go_enter Try.func5, Try.ntmps5
    go_wp2_with fail
    refine (awake07_any _).mono ?_
    rintro e w1 ⟨rfl, b1⟩
    go_wp2
    go_ret
    exact ⟨rfl, b1⟩
  have d3 : decide ((400 : Int) < (m.size : Int)) = false := decide_eq_false (by omega)
  have d4 : decide (400 < m.size) = false := decide_eq_false h'
  have h1 := fun w => mailbox_any s hm w
  obtain ⟨z, hz⟩ : ∃ z, mailB (bl s) = z := ⟨_, rfl⟩
  simp only [hz] at h1
  have H1 := Lib.hid h1
  have HZ := Lib.hid hz
  have H3 := Lib.hid (fun w => show_any s (by omega) w)
  clear h1 hz
  have e2 : ((⟨#[60]⟩ : ByteArray) ++ s).size = 1 + s.size := by rw [ByteArray.size_append]; rfl
  have e3 : ((⟨#[60]⟩ : ByteArray) ++ s ++ ⟨#[62]⟩).size = 2 + s.size := by rw [ByteArray.size_append, e2]; show 1 + s.size + 1 = _; omega
  have k1 := fun w => run_string_add_sum (P := Try.prog) w (⟨#[60]⟩ ++ s ++ ⟨#[62]⟩) m (by omega)
  have hbl : bl (⟨#[60]⟩ ++ s ++ ⟨#[62]⟩ ++ m) = 60 :: (bl s ++ 62 :: bl m) := by simp [bl]
  have hsz : (((⟨#[60]⟩ : ByteArray) ++ s ++ ⟨#[62]⟩) ++ m).size ≤ maxLen := by unfold maxLen; rw [ByteArray.size_append, e3]; omega
  have hpb : (bl s = [] ∨ z = true) → ∀ w, Calls Try.prog 23 #[.string (⟨#[60]⟩ ++ s ++ ⟨#[62]⟩ ++ m)] w fun e w' => e = .returned (.tuple #[.string s, .string m, .bool true]) ∧ Below w.heap.size w w' := fun hh w => by
    have := parse_any (⟨#[60]⟩ ++ s ++ ⟨#[62]⟩ ++ m) hsz w
    rw [hbl] at this
    obtain ⟨p1, p2, p3⟩ := parse_back (bl s) (bl m) (by rw [HZ.out]; exact hh)
    rw [p1, p2, p3, St_bl, St_bl] at this
    exact this
  have HPB := Lib.hid hpb
  have qs : (s.toList == s.toList) = true := beq_self_eq_true _
  have qm : (m.toList == m.toList) = true := beq_self_eq_true _
  clear e2 e3 hbl hsz hpb
  by_cases h0 : 1 ≤ s.size
  · obtain ⟨em1, em2⟩ := empty_len h0
    have em3 : (s.toList != []) = true := by rw [bne, em2]; rfl
    cases z with
    | true =>
      have HP := Lib.hid (HPB.out (.inr rfl))
      go_enter Try.func5, Try.ntmps5
      go_wp2_with fail
      refine (awake07_any _).mono ?_
      rintro e w1 ⟨rfl, b1⟩
      go_wp2_with fail
      refine (H1.out _).mono ?_
      rintro e w2 ⟨rfl, b2⟩
      go_wp2_with fail
      refine (H3.out _).mono ?_
      rintro e w' ⟨rfl, rfl⟩
      go_wp2_with fail
      refine (HP.out _).mono ?_
      rintro e w3 ⟨rfl, b3⟩
      have c1 := b1.trans (b2.mono b1.size)
      have c2 := c1.trans (b3.mono c1.size)
      clear c1 b1 b2 b3
      go_wp2
      go_ret
      exact ⟨rfl, c2⟩
    | false =>
      go_enter Try.func5, Try.ntmps5
      go_wp2_with fail
      refine (awake07_any _).mono ?_
      rintro e w1 ⟨rfl, b1⟩
      go_wp2_with fail
      refine (H1.out _).mono ?_
      rintro e w2 ⟨rfl, b2⟩
      have c1 := b1.trans (b2.mono b1.size)
      clear b1 b2
      go_wp2
      go_ret
      exact ⟨rfl, c1⟩
  · have hs : s = ⟨#[]⟩ := bl_ext (by have := bl_len s; apply List.length_eq_zero_iff.1; omega)
    have HP := Lib.hid (HPB.out (.inl (by rw [hs]; rfl)))
    have em1 : s.toList.isEmpty = true := by rw [toList_bl, hs]; rfl
    have em3 : (s.toList != []) = false := by rw [toList_bl, hs]; rfl
    clear hs
    go_enter Try.func5, Try.ntmps5
    go_wp2_with fail
    refine (awake07_any _).mono ?_
    rintro e w1 ⟨rfl, b1⟩
    go_wp2_with fail
    refine (H3.out _).mono ?_
    rintro e w' ⟨rfl, rfl⟩
    go_wp2_with fail
    refine (HP.out _).mono ?_
    rintro e w3 ⟨rfl, b3⟩
    have c2 := b1.trans (b3.mono b1.size)
    clear b1 b3
    go_wp2
    go_ret
    exact ⟨rfl, c2⟩
end Go.Proofs.Ytofdfcngmkkfdaa

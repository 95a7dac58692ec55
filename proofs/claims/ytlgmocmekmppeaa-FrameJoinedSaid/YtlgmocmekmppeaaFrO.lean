/- The walks of FrameAll and FrameBack: the Go text returns true, and nothing that was there is written. -/
import Derived.RangeFuncNested
import Derived.RangeFuncBound
import Derived.RangeFuncCalls
import Derived.RangeFuncLeaves
import Derived.Shelf.Abstract
import Derived.Shelf.RegionOpen
import Derived.WalkKit
import Derived.OwnWalkIn
import Derived.TacticsInMore
import Derived.LoopNIn
import Derived.LoopIn
import Derived.Outline
import Derived.Lib.Hide
import Derived.Lib.SliceRun
import Derived.IntWalk
import Derived.WalkLawsBesides
import Derived.WalkSpells
import Derived.Laws.BitsAllLaws
import Derived.Lib.ConvBytes
import Derived.Maps.AppendAt
import Derived.Lib.AppendStr
import Derived.Lib.SlBytesConst
import Derived.Laws.AppendOwnNone
import Derived.Laws.OwnMore
import Derived.Laws.BytesArg
import Derived.Deep.RegionHeld3
import Derived.BigQuiet
import Derived.Deep.RegionLaw
import Derived.Deep.QuietTactic
import Derived.Test.YtlgmocmekmppeaaProg
import Derived.Test.YtlgmocmekmppeaaFrD
import Derived.Test.YtlgmocmekmppeaaFrN
set_option linter.unusedVariables false
set_option linter.unusedSimpArgs false
namespace Go.Proofs.Ytlgmocmekmppeaa
open Go Go.RowKit Go.Shelf

set_option maxRecDepth 100000 in
set_option maxHeartbeats 400000 in
theorem frameAll_walk (v : Value) (l : List UInt8) (w : World) (h : SB w v l) :
    Calls Try.prog 6 #[v] w fun e w' => e = .returned (.bool true) ∧ Below w.heap.size w w' := by
  obtain ⟨A, c, hv, -, -, -⟩ := h.form
  subst hv
  by_cases hl : l.length ≤ 2000
  · have hf : fewB [l] = true := by simp [fewB, hl]
    go_enter Try.func6, Try.ntmps6
    go_wp2_with fail
    refine (awake_any w).mono ?_
    rintro e w1 ⟨rfl, hB1⟩
    have hs1 := h.below hB1
    go_wp2_with fail
    refine (few_any _ [l] _ (SS_one hs1)).mono ?_
    rintro e w2 ⟨rfl, rfl⟩
    rw [hf]
    have hB2 := hB1.alloc hB1.size (.cells #[.slice A l.length c] 22)
    go_wp2_with fail
    refine (all_any _ l _ (by omega) (h.below hB2)).mono ?_
    rintro e w2 ⟨v1, rfl, hx1, hB3⟩
    have hB3' := hB2.trans (hB3.mono hB2.size)
    go_wp2_with fail
    refine (rall_any _ l _ (by omega) (h.below hB3')).mono ?_
    rintro e w3 ⟨v2, rfl, hx2, hB4⟩
    have hB4' := hB3'.trans (hB4.mono hB3'.size)
    have hx1' := Lib.hid (hx1.below hB4)
    have hx2' := Lib.hid hx2
    clear hx1 hx2
    generalize allN l = n at *
    go_wp2_with fail
    refine (same_any _ _ _ _ _ hx1'.out hx2'.out).mono ?_
    rintro e w4 ⟨rfl, hB5⟩
    have hd : decide (allR l = allR l) = true := by simp
    rw [hd]
    go_wp2
    go_ret
    exact ⟨rfl, hB4'.trans (hB5.mono hB4'.size)⟩
  · have hf : fewB [l] = false := by simp [fewB, hl]
    go_enter Try.func6, Try.ntmps6
    go_wp2_with fail
    refine (awake_any w).mono ?_
    rintro e w1 ⟨rfl, hB1⟩
    have hs1 := h.below hB1
    go_wp2_with fail
    refine (few_any _ [l] _ (SS_one hs1)).mono ?_
    rintro e w2 ⟨rfl, rfl⟩
    rw [hf]
    have hB2 := hB1.alloc hB1.size (.cells #[.slice A l.length c] 22)
    go_wp2
    go_ret
    exact ⟨rfl, hB2⟩

theorem few_all {ls : List (List UInt8)} (h : fewB ls = true) : ls.length ≤ 50 ∧ ∀ l ∈ ls, l.length ≤ 2000 := by
  simpa [fewB] using h

/-- the law is left at once where the arguments are not few -/
theorem few2 (ls : List (List UInt8)) (m : List UInt8) : (fewB ls = true ∧ m.length ≤ 2000) ∨ fewB ls = false ∨ (fewB ls = true ∧ fewB [m] = false) := by
  cases h : fewB ls with
  | false => exact .inr (.inl rfl)
  | true =>
    by_cases hm : m.length ≤ 2000
    · exact .inl ⟨rfl, hm⟩
    · exact .inr (.inr ⟨rfl, by simp [fewB, hm]⟩)

set_option maxRecDepth 100000 in
set_option maxHeartbeats 400000 in
theorem back_many1 (v v' : Value) (ls : List (List UInt8)) (m : List UInt8) (w : World) (h : SS w v ls) (h' : SB w v' m) (hf : fewB ls = false) :
    Calls Try.prog 7 #[v, v'] w fun e w' => e = .returned (.bool true) ∧ Below w.heap.size w w' := by
  obtain ⟨A, c, hv, -, -⟩ := h.form
  obtain ⟨A', c', hv', -, -, -⟩ := h'.form
  subst hv hv'
  go_enter Try.func7, Try.ntmps7
  go_wp2_with fail
  refine (awake_any w).mono ?_
  rintro e w1 ⟨rfl, hB1⟩
  go_wp2_with fail
  refine (few_any _ ls _ (h.below hB1)).mono ?_
  rintro e w2 ⟨rfl, rfl⟩
  rw [hf]
  go_wp2
  go_ret
  exact ⟨rfl, hB1⟩

set_option maxRecDepth 100000 in
set_option maxHeartbeats 400000 in
theorem back_many2 (v v' : Value) (ls : List (List UInt8)) (m : List UInt8) (w : World) (h : SS w v ls) (h' : SB w v' m) (hf : fewB ls = true) (hf' : fewB [m] = false) :
    Calls Try.prog 7 #[v, v'] w fun e w' => e = .returned (.bool true) ∧ Below w.heap.size w w' := by
  obtain ⟨A, c, hv, -, -⟩ := h.form
  obtain ⟨A', c', hv', -, -, -⟩ := h'.form
  subst hv hv'
  go_enter Try.func7, Try.ntmps7
  go_wp2_with fail
  refine (awake_any w).mono ?_
  rintro e w1 ⟨rfl, hB1⟩
  go_wp2_with fail
  refine (few_any _ ls _ (h.below hB1)).mono ?_
  rintro e w2 ⟨rfl, rfl⟩
  rw [hf]
  have hs1 := h'.below hB1
  go_wp2_with fail
  refine (few_any _ [m] _ (SS_one hs1)).mono ?_
  rintro e w2 ⟨rfl, rfl⟩
  rw [hf']
  go_wp2
  go_ret
  exact ⟨rfl, hB1.alloc hB1.size _⟩

set_option maxRecDepth 100000 in
set_option maxHeartbeats 1000000 in
theorem back_few (v v' : Value) (ls : List (List UInt8)) (m : List UInt8) (w : World) (h : SS w v ls) (h' : SB w v' m) (hf : fewB ls = true) (hm : m.length ≤ 2000) :
    Calls Try.prog 7 #[v, v'] w fun e w' => e = .returned (.bool true) ∧ Below w.heap.size w w' := by
  have hf' : fewB [m] = true := by simp [fewB, hm]
  obtain ⟨A, c, hv, -, -⟩ := h.form
  obtain ⟨A', c', hv', -, -, -⟩ := h'.form
  subst hv hv'
  obtain ⟨hl50, hl2⟩ := few_all hf
  have hlen := recsB_len ls hl2
  have Hl2 := Lib.hid hl2
  clear hl2
  have H := Lib.hid h
  have H' := Lib.hid h'
  clear h h'
  go_enter Try.func7, Try.ntmps7
  go_wp2_with fail
  refine (awake_any w).mono ?_
  rintro e w1 ⟨rfl, hB1⟩
  go_wp2_with fail
  refine (few_any _ ls _ (H.out.below hB1)).mono ?_
  rintro e w2 ⟨rfl, rfl⟩
  rw [hf]
  go_wp2_with fail
  refine (few_any _ [m] _ (SS_one (H'.out.below hB1))).mono ?_
  rintro e w2 ⟨rfl, rfl⟩
  rw [hf']
  have hB2 := hB1.alloc hB1.size (.cells #[.slice A' m.length c'] 22)
  go_wp2_with fail
  refine (write_any _ ls _ hf (H.out.below hB2)).mono ?_
  rintro e w2 ⟨v1, rfl, ho1, hB3⟩
  have hB3' := hB2.trans (hB3.mono hB2.size)
  go_wp2_with fail
  refine (rnext_any _ m _ (by omega) (H'.out.below hB3')).mono ?_
  rintro e w3 ⟨v2, v3, rfl, -, -, hB4⟩
  have hB4' := hB3'.trans (hB4.mono hB3'.size)
  have ho1' := ho1.below hB4
  clear hB3 ho1
  cases hb : nextB m with
  | true =>
    clear hb
    go_wp2
    go_ret
    exact ⟨rfl, hB4'⟩
  | false =>
    obtain ⟨A1, c1, e1, -, -, -⟩ := ho1'.reads.form
    subst e1
    obtain ⟨r1, r2⟩ := all_write ls m (fun l hl => by have := Hl2.out l hl; omega) hb
    have R1 := Lib.hid r1
    have R2 := Lib.hid r2
    clear r1 r2 hb
    go_wp2_with (refine wpB_append rfl _ _ rfl w.heap.size (.slice none 0 0) _ [] (recsB ls) rfl (World.ownsRow_nil _ _ _ _) rfl ho1'.reads (by simp; omega) hB4'.size ?_)
    intro v4 w4 hown4 _ hB5
    have hB5' := hB4'.trans hB5
    go_wp2_with (at_builtin; refine wpB_append rfl _ _ rfl w.heap.size _ _ (recsB ls) m rfl hown4 rfl (H'.out.below hB5') (by omega) hB5'.size ?_)
    intro v5 w5 hown5 _ hB6
    have hB6' := hB5'.trans hB6
    go_wp2_with fail
    refine (all_any _ (recsB ls ++ m) _ (by simp; omega) hown5.reads).mono ?_
    rintro e w6 ⟨v6, rfl, hx6, hB7⟩
    rw [R2.out]
    rw [R1.out] at hx6
    have hB7' := hB6'.trans (hB7.mono hB6'.size)
    have hx6' := Lib.hid hx6
    clear hx6
    go_wp2_with fail
    refine (same_any _ _ _ _ _ hx6'.out (H.out.below hB7')).mono ?_
    rintro e w7 ⟨rfl, hB8⟩
    have hd : decide (ls = ls) = true := by simp
    rw [hd]
    go_wp2
    go_ret
    exact ⟨rfl, hB7'.trans (hB8.mono hB7'.size)⟩

theorem frameBack_walk (v : Value) (ls : List (List UInt8)) (v' : Value) (m : List UInt8) (w : World) (h : SS w v ls) (h' : SB w v' m) :
    Calls Try.prog 7 #[v, v'] w fun e w' => e = .returned (.bool true) ∧ Below w.heap.size w w' := by
  rcases few2 ls m with ⟨h1, h2⟩ | h1 | ⟨h1, h2⟩
  · exact back_few v v' ls m w h h' h1 h2
  · exact back_many1 v v' ls m w h h' h1
  · exact back_many2 v v' ls m w h h' h1 h2
end Go.Proofs.Ytlgmocmekmppeaa

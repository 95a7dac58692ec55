/- The walk of FrameTorn: the Go text returns true, and nothing that was there is written. -/
import Derived.RangeFuncNested
import Derived.RangeFuncBound
import Derived.RangeFuncCalls
import Derived.RangeFuncLeaves
import Derived.Shelf.Abstract
import Derived.Shelf.RegionOpen
import Derived.WalkKit
import Derived.OwnWalkIn
import Derived.TacticsInMore
import Derived.LoopNIn
import Derived.LoopIn
import Derived.Outline
import Derived.Lib.Hide
import Derived.Lib.SliceRun
import Derived.IntWalk
import Derived.WalkLawsBesides
import Derived.WalkSpells
import Derived.Laws.BitsAllLaws
import Derived.Lib.ConvBytes
import Derived.Maps.AppendAt
import Derived.Lib.AppendStr
import Derived.Lib.SlBytesConst
import Derived.Laws.AppendOwnNone
import Derived.Laws.OwnMore
import Derived.Laws.BytesArg
import Derived.Deep.RegionHeld3
import Derived.BigQuiet
import Derived.Deep.RegionLaw
import Derived.Deep.QuietTactic
import Derived.Test.YtlgmocmekmppeaaProg
import Derived.Test.YtlgmocmekmppeaaFrO
set_option linter.unusedVariables false
set_option linter.unusedSimpArgs false
namespace Go.Proofs.Ytlgmocmekmppeaa
open Go Go.RowKit Go.Shelf

theorem SS.take {W : World} {A : Option Addr} {n c : Nat} {ls : List (List UInt8)} (h : SS W (.slice A n c) ls) (m : Nat) (hm : m ≤ ls.length) : SS W (.slice A m c) (ls.take m) := by
  have hml : (ls.take m).length = m := by simp; omega
  rcases h with ⟨he, rfl⟩ | ⟨ad, c', he, h1, h2⟩
  · cases he
    obtain rfl : m = 0 := by simpa using hm
    exact .inl ⟨rfl, by simp⟩
  · cases he
    refine .inr ⟨ad, c, by rw [hml], ⟨by omega, by omega⟩, fun h0 => ?_⟩
    obtain ⟨g, o, rfl, hc⟩ := h2 (by omega)
    refine ⟨g, o, rfl, fun i hi => ?_⟩
    rw [List.getElem?_take_of_lt (by omega)]
    exact hc i (by omega)

set_option maxRecDepth 100000 in
set_option maxHeartbeats 400000 in
theorem torn_many (v : Value) (ls : List (List UInt8)) (cut : Int) (w : World) (h : SS w v ls) (hf : fewB ls = false) :
    Calls Try.prog 8 #[v, .int .i64 cut] w fun e w' => e = .returned (.bool true) ∧ Below w.heap.size w w' := by
  obtain ⟨A, c, hv, -, -⟩ := h.form
  subst hv
  go_enter Try.func8, Try.ntmps8
  go_wp2_with fail
  refine (awake_any w).mono ?_
  rintro e w1 ⟨rfl, hB1⟩
  go_wp2_with fail
  refine (few_any _ ls _ (h.below hB1)).mono ?_
  rintro e w2 ⟨rfl, rfl⟩
  rw [hf]
  go_wp2
  go_ret
  exact ⟨rfl, hB1⟩

set_option maxRecDepth 100000 in
set_option maxHeartbeats 400000 in
theorem torn_out (v : Value) (ls : List (List UInt8)) (cut : Int) (w : World) (h : SS w v ls) (hf : fewB ls = true) (ho : cut < 0 ∨ (0 ≤ cut ∧ ((recsB ls).length : Int) < cut)) :
    Calls Try.prog 8 #[v, .int .i64 cut] w fun e w' => e = .returned (.bool true) ∧ Below w.heap.size w w' := by
  obtain ⟨A, c, hv, -, -⟩ := h.form
  subst hv
  rcases ho with ho | ⟨h0, ho⟩
  all_goals
    go_enter Try.func8, Try.ntmps8
    go_wp2_with fail
    refine (awake_any w).mono ?_
    rintro e w1 ⟨rfl, hB1⟩
    go_wp2_with fail
    refine (few_any _ ls _ (h.below hB1)).mono ?_
    rintro e w2 ⟨rfl, rfl⟩
    rw [hf]
    go_wp2_with fail
    refine (write_any _ ls _ hf (h.below hB1)).mono ?_
    rintro e w2 ⟨v1, rfl, ho1, hB2⟩
    obtain ⟨A1, c1, e1, -, -, -⟩ := ho1.reads.form
    subst e1
    clear ho1
    go_wp2
    go_ret
    exact ⟨rfl, hB1.trans (hB2.mono hB1.size)⟩

set_option maxRecDepth 100000 in
set_option maxHeartbeats 1000000 in
theorem torn_in (v : Value) (ls : List (List UInt8)) (q : Nat) (w : World) (h : SS w v ls) (hf : fewB ls = true) (hq : q ≤ (recsB ls).length) :
    Calls Try.prog 8 #[v, .int .i64 (q : Int)] w fun e w' => e = .returned (.bool true) ∧ Below w.heap.size w w' := by
  obtain ⟨A, c, hv, ⟨hlc, hcm⟩, -⟩ := h.form
  subst hv
  obtain ⟨hl50, hl2⟩ := few_all hf
  have hlen := recsB_len ls hl2
  have Hl2 : Hid (∀ l ∈ ls, l.length ≤ 1000000) := fun l h => by have := hl2 l h; omega
  clear hl2
  have H := Lib.hid h
  clear h
  have Hf := Lib.hid hf
  go_enter Try.func8, Try.ntmps8
  go_wp2_with fail
  refine (awake_any w).mono ?_
  rintro e w1 ⟨rfl, hB1⟩
  go_wp2_with fail
  refine (few_any _ ls _ (H.out.below hB1)).mono ?_
  rintro e w2 ⟨rfl, rfl⟩
  rw [hf]
  go_wp2_with fail
  refine (write_any _ ls _ hf (H.out.below hB1)).mono ?_
  rintro e w2 ⟨v1, rfl, ho1, hB2⟩
  have hB2' := hB1.trans (hB2.mono hB1.size)
  obtain ⟨A1, c1, e1, hc1, hc1', -⟩ := ho1.reads.form
  subst e1
  have ht := ho1.reads.take q hq (.inr trivial)
  have Ht := Lib.hid ht
  have htl : ((recsB ls).take q).length ≤ 1000000 := by simp; omega
  clear ht ho1
  go_wp2_with fail
  refine (all_any _ ((recsB ls).take q) _ htl Ht.out).mono ?_
  rintro e w3 ⟨v3, rfl, hx3, hB3⟩
  have hB3' := hB2'.trans (hB3.mono hB2'.size)
  have Hx3 := Lib.hid hx3
  clear hx3 htl
  go_wp2_with fail
  go_loop [9, 45] (fun t i => ∃ k : Nat, k ≤ ls.length ∧ i = .int .i64 k ∧ t = .int .i64 (offL ls k : Nat) ∧ offL ls k ≤ q) (fun _ i => ls.length - (intOf i).toNat)
  case atStart => exact ⟨0, Nat.zero_le _, rfl, by rw [offL_zero]; rfl, by rw [offL_zero]; omega⟩
  case round =>
    obtain ⟨k, hk, rfl, rfl, hoff⟩ := hrel
    by_cases hlt : k < ls.length
    · obtain ⟨g, o, rfl, hcell⟩ : ∃ g o, A = some ⟨g, o, none⟩ ∧ ∀ i, i < ls.length → ∃ u, w.cell? ⟨g, o + i, none⟩ = some u ∧ SB w u (ls[i]?.getD []) := by
        obtain ⟨A', c', e, _, h2⟩ := H.out.form
        cases e
        exact h2 (by omega)
      obtain ⟨u, hu, hsb⟩ := hcell k hlt
      have hcu := (hB3'.cell (p := ⟨g, o + k, none⟩) (World.block_lt_of_cell? w _ hu)).trans hu
      obtain ⟨A4, c4, e4, -, -, -⟩ := hsb.form
      subst e4
      have hx4 : (ls[k]?.getD []).length ≤ 1000000 := by rw [List.getElem?_eq_getElem hlt]; exact Hl2.out _ (List.getElem_mem hlt)
      have hs := offL_succ ls k hlt
      clear hcell hu hsb
      obtain ⟨n, hn⟩ : ∃ n, (ls[k]?.getD []).length = n := ⟨_, rfl⟩
      rw [hn] at hcu hs hx4
      have Hs := Lib.hid hs
      have Hn := Lib.hid hn
      clear hs hn
      obtain ⟨p, hp⟩ : ∃ p, offL ls k = p := ⟨_, rfl⟩
      rw [hp] at hoff ⊢
      have Hp := Lib.hid hp
      clear hp
      have hpl : p ≤ 1000000 := by omega
      by_cases hgt : q < p + (8 + n)
      · obtain ⟨r1, r2⟩ := all_torn ls Hl2.out q k hlt (by rw [Hp.out]; exact hoff) (by rw [Hs.out, Hp.out]; exact hgt)
        rw [r1] at Hx3
        rw [r2, Hp.out]
        have he : ((p : Int) == (p : Int) + (8 + (n : Int)) - 8 - (n : Int)) = true := by simp; omega
        have hst := (H.out.below hB3').take k (by omega)
        have Hst := Lib.hid hst
        clear r1 r2 hst
        go_wp2_with fail
        refine (same_any _ _ _ _ _ Hx3.out Hst.out).mono ?_
        rintro e w4 ⟨rfl, hB4⟩
        have hd : decide (ls.take k = ls.take k) = true := by simp
        rw [hd]
        go_wp2
        go_ret
        exact ⟨rfl, hB3'.trans (hB4.mono hB3'.size)⟩
      · go_wp2
        go_round
        case rel => exact ⟨k + 1, by omega, by go_num, by rw [Hs.out, Hp.out]; go_num, by rw [Hs.out, Hp.out]; omega⟩
        case measure => simp [intOf]; omega
    · obtain rfl : k = ls.length := by omega
      obtain ⟨r1, r2⟩ := all_write ls [] Hl2.out nextB_nil
      rw [List.append_nil] at r1 r2
      have hall := offL_all ls
      obtain ⟨p, hp⟩ : ∃ p, (recsB ls).length = p := ⟨_, rfl⟩
      have hqp : q = p := by omega
      have htk : (recsB ls).take q = recsB ls := List.take_of_length_le (by omega)
      rw [htk, r1] at Hx3
      rw [htk, r2, hp]
      rw [hp] at hc1
      subst hqp
      have Hp := Lib.hid hp
      have hH := H.out.below hB3'
      have Hst := Lib.hid hH
      clear r1 r2 hall hp htk hH hlen hq hoff
      go_wp2_with fail
      refine (same_any _ _ _ _ _ Hx3.out Hst.out).mono ?_
      rintro e w4 ⟨rfl, hB4⟩
      have hd : decide (ls = ls) = true := by simp
      rw [hd]
      go_wp2
      go_ret
      exact ⟨rfl, hB3'.trans (hB4.mono hB3'.size)⟩

theorem frameTorn_walk (v : Value) (ls : List (List UInt8)) (cut : Int) (w : World) (h : SS w v ls) (hc : (Lit.int .i64 cut).wf = true) :
    Calls Try.prog 8 #[v, .int .i64 cut] w fun e w' => e = .returned (.bool true) ∧ Below w.heap.size w w' := by
  cases hf : fewB ls with
  | false => exact torn_many v ls cut w h hf
  | true =>
    by_cases h0 : cut < 0
    · exact torn_out v ls cut w h hf (.inl h0)
    · by_cases h1 : ((recsB ls).length : Int) < cut
      · exact torn_out v ls cut w h hf (.inr ⟨by omega, h1⟩)
      · obtain ⟨q, rfl⟩ := Int.eq_ofNat_of_zero_le (show 0 ≤ cut by omega)
        exact torn_in v ls q w h hf (by omega)
end Go.Proofs.Ytlgmocmekmppeaa

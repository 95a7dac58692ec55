/- Growth, of both; MerkleGrowths. -/
import Derived.RangeFuncNested
import Derived.RangeFuncBound
import Derived.RangeFuncCalls
import Derived.RangeFuncLeaves
import Derived.Shelf.Abstract
import Derived.Shelf.RegionOpen
import Derived.WalkKit
import Derived.OwnWalkIn
import Derived.TacticsInMore
import Derived.LoopNIn
import Derived.LoopIn
import Derived.Outline
import Derived.Lib.Hide
import Derived.Lib.SliceRun
import Derived.IntWalk
import Derived.WalkLawsBesides
import Derived.WalkSpells
import Derived.Laws.BitsAllLaws
import Derived.Lib.ConvBytes
import Derived.Maps.AppendAt
import Derived.Lib.AppendStr
import Derived.Lib.SlBytesConst
import Derived.Laws.AppendOwnNone
import Derived.Laws.OwnMore
import Derived.Laws.BytesArg
import Derived.Deep.RegionHeld3
import Derived.BigQuiet
import Derived.Deep.RegionLaw
import Derived.Deep.QuietTactic
import Derived.Lib.OthersKept
import Derived.Test.YtkipnhhdlohnfaaProg
import Derived.Deep.DeepFit
import Derived.Laws.EntriesVeiled
import Derived.Test.YtkipnhhdlohnfaaMkL
set_option linter.unusedVariables false
set_option linter.unusedSimpArgs false
namespace Go.Proofs.Ytkipnhhdlohnfaa
open Go Go.RowKit Go.Shelf

def growW (ls : List (List UInt8)) (m : Int) : List (List UInt8) := if 1 ≤ m ∧ m ≤ ls.length then growL ls m.toNat true else []
def growE (ls : List (List UInt8)) (m : Int) : Int := if 1 ≤ m ∧ m ≤ ls.length then 0 else 1
set_option maxHeartbeats 2000000 in
set_option maxRecDepth 100000 in
/-- **the reference's Growth** -/
theorem qgrowth_any (v : Value) (ls : List (List UInt8)) (m : Int) (w : World) (hv : HS w v ls) (hmax : ls.length ≤ 999) :
    Calls Try.prog 34 #[v, .int .i64 m] w fun e w' => ∃ u, e = .returned (.tuple #[u, .int .i64 (growE ls m)]) ∧ OHS w' w.heap.size u (growW ls m) ∧ Below w.heap.size w w' := by
  obtain ⟨C, c, rfl, -⟩ := hv.form
  by_cases h : 1 ≤ m ∧ m ≤ ls.length
  · obtain ⟨j, rfl⟩ : ∃ j : Nat, m = j := ⟨m.toNat, by omega⟩
    have hq := fun w' hb => qsub_any (ls.length + 1) _ ls j true w' (by omega) hmax (by omega) (by omega) (hv.below (W' := w') hb)
    unfold growW growE
    rw [if_pos h, if_pos h, Int.toNat_natCast]
    obtain ⟨n, hn⟩ : ∃ n, ls.length = n := ⟨_, rfl⟩
    rw [hn] at hq h ⊢
    have hj0 : 0 < j := by omega
    have hjn : j ≤ n := by omega
    have HQ := Lib.hid hq
    clear hv hq hmax hn h
    go_enter Try.func34, Try.ntmps34
    go_wp2_with fail
    refine (HQ.out _ (Below.refl _ _)).mono ?_
    rintro e w1 ⟨u, rfl, ho, hb⟩
    have HO := Lib.hid ho
    have HB := Lib.hid hb
    clear ho hb
    go_wp2
    go_ret2
    exact ⟨u, rfl, HO.out, HB.out⟩
  · unfold growW growE
    rw [if_neg h, if_neg h]
    obtain ⟨n, hn⟩ : ∃ n, ls.length = n := ⟨_, rfl⟩
    rw [hn] at h ⊢
    clear hv hmax hn
    by_cases h1 : m < 1
    · clear h
      go_enter Try.func34, Try.ntmps34
      go_wp2
      go_ret2
      exact ⟨_, rfl, OHS_nil _ _, Below.refl _ _⟩
    · have h2 : (n : Int) < m := by omega
      clear h
      go_enter Try.func34, Try.ntmps34
      go_wp2
      go_ret2
      exact ⟨_, rfl, OHS_nil _ _, Below.refl _ _⟩
set_option maxHeartbeats 2000000 in
set_option maxRecDepth 100000 in
/-- **merkle.Growth** -/
theorem growth_any (v : Value) (ls : List (List UInt8)) (m : Int) (w : World) (hv : HS w v ls) (hmax : ls.length ≤ 999) :
    Calls Try.prog 33 #[v, .int .i64 m] w fun e w' => ∃ u, e = .returned (.tuple #[u, .int .i64 (growE ls m)]) ∧ OHS w' w.heap.size u (growW ls m) ∧ Below w.heap.size w w' := by
  obtain ⟨C, c, rfl, -⟩ := hv.form
  by_cases h : 1 ≤ m ∧ m ≤ ls.length
  · obtain ⟨j, rfl⟩ : ∃ j : Nat, m = j := ⟨m.toNat, by omega⟩
    have hq := fun w' hb D hD => gro_any (ls.length + 1) _ ls j true w' D hD (by omega) hmax (by omega) (by omega) (hv.below (W' := w') hb)
    unfold growW growE
    rw [if_pos h, if_pos h, Int.toNat_natCast]
    obtain ⟨n, hn⟩ : ∃ n, ls.length = n := ⟨_, rfl⟩
    rw [hn] at hq h ⊢
    have hj0 : 0 < j := by omega
    have hjn : j ≤ n := by omega
    have HQ := Lib.hid hq
    clear hv hq hmax hn h
    go_enter Try.func33, Try.ntmps33
    go_wp2_with fail
    have hb0 : Below w.heap.size w (w.alloc (.cells #[fvG w.heap.size] 79)) := (Below.refl _ w).alloc (Nat.le_refl _) _
    refine (HQ.out _ hb0 w.heap.size (by rw [(Row.new w #[fvG w.heap.size] 79).cell 0]; rfl)).mono ?_
    rintro e w1 ⟨u, rfl, ho, hb⟩
    have HO := Lib.hid (ho.mono hb0.size)
    have HB := Lib.hid (below_step hb0 hb0.size hb)
    clear ho hb hb0
    go_wp2
    go_ret2
    exact ⟨u, rfl, HO.out, HB.out⟩
  · unfold growW growE
    rw [if_neg h, if_neg h]
    obtain ⟨n, hn⟩ : ∃ n, ls.length = n := ⟨_, rfl⟩
    rw [hn] at h ⊢
    clear hv hmax hn
    by_cases h1 : m < 1
    · clear h
      go_enter Try.func33, Try.ntmps33
      go_wp2
      go_ret2
      exact ⟨_, rfl, OHS_nil _ _, Below.refl _ _⟩
    · have h2 : (n : Int) < m := by omega
      clear h
      go_enter Try.func33, Try.ntmps33
      go_wp2
      go_ret2
      exact ⟨_, rfl, OHS_nil _ _, Below.refl _ _⟩

set_option maxHeartbeats 4000000 in
set_option maxRecDepth 100000 in
theorem merkleGrowths_walk (u : Value) (ls : List (List UInt8)) (i : Int) (w : World) (hu : HS w u ls) (hi : (Lit.int .i64 i).wf = true) :
    Calls Try.prog 9 #[u, .int .i64 i] w fun e w' => e = .returned (.bool true) ∧ Below w.heap.size w w' := by
  have hf := fun w' hb => few_any _ ls w' (hu.below (W' := w') hb)
  by_cases kl : ls.length ≤ 20
  · rw [show decide (ls.length ≤ 20) = true by simp; omega] at hf
    have hp := fun w' hb => growth_any _ ls i w' (hu.below (W' := w') hb) (by omega)
    have hq := fun w' hb => qgrowth_any _ ls i w' (hu.below (W' := w') hb) (by omega)
    obtain ⟨pl, hpl⟩ : ∃ pl, growW ls i = pl := ⟨_, rfl⟩
    obtain ⟨pe, hpe⟩ : ∃ pe, growE ls i = pe := ⟨_, rfl⟩
    simp only [hpl, hpe] at hp hq
    have HP := Lib.hid hp
    have HQ := Lib.hid hq
    have HF := Lib.hid hf
    clear hf hp hq hpl hpe hu kl hi
    go_enter Try.func9, Try.ntmps9
    go_wp2_with fail
    refine (awake05_any _).mono ?_
    rintro e w1 ⟨rfl, hb1⟩
    have HB1 := Lib.hid hb1
    clear hb1
    go_wp2_with fail
    refine (HF.out _ HB1.out).mono ?_
    rintro e w2 ⟨rfl, rfl⟩
    go_wp2_with fail
    refine (HP.out _ HB1.out).mono ?_
    rintro e w2 ⟨p, rfl, ho2, hb2⟩
    have HB2 := Lib.hid (below_on hb2 HB1.out)
    have HO2 := Lib.hid ho2.reads
    clear hb2 HB1 ho2
    go_wp2_with fail
    refine (HQ.out _ HB2.out).mono ?_
    rintro e w3 ⟨q, rfl, ho3, hb3⟩
    have HB3 := Lib.hid (below_on hb3 HB2.out)
    have HO3 := Lib.hid ho3.reads
    have HO2' := Lib.hid (HO2.out.below hb3)
    clear hb3 HB2 ho3 HO2
    go_wp2_with fail
    refine (same_eq _ _ pl _ HO2'.out HO3.out).mono ?_
    rintro e w4 ⟨rfl, hb4⟩
    have HB4 := Lib.hid (below_on hb4 HB3.out)
    clear hb4 HB3
    go_wp2
    go_ret
    exact ⟨rfl, HB4.out⟩
  · rw [show decide (ls.length ≤ 20) = false by simp; omega] at hf
    have HF := Lib.hid hf
    clear hf hu kl hi
    go_enter Try.func9, Try.ntmps9
    go_wp2_with fail
    refine (awake05_any _).mono ?_
    rintro e w1 ⟨rfl, hb1⟩
    have HB1 := Lib.hid hb1
    clear hb1
    go_wp2_with fail
    refine (HF.out _ HB1.out).mono ?_
    rintro e w2 ⟨rfl, rfl⟩
    go_wp2
    go_ret
    exact ⟨rfl, HB1.out⟩
end Go.Proofs.Ytkipnhhdlohnfaa

/- change, of whatever is to be done. -/
import Derived.RangeFuncNested
import Derived.RangeFuncBound
import Derived.RangeFuncCalls
import Derived.RangeFuncLeaves
import Derived.Shelf.Abstract
import Derived.Shelf.RegionOpen
import Derived.WalkKit
import Derived.OwnWalkIn
import Derived.TacticsInMore
import Derived.LoopNIn
import Derived.LoopIn
import Derived.Outline
import Derived.Lib.Hide
import Derived.Lib.SliceRun
import Derived.IntWalk
import Derived.WalkLawsBesides
import Derived.WalkSpells
import Derived.Laws.BitsAllLaws
import Derived.Lib.ConvBytes
import Derived.Maps.AppendAt
import Derived.Lib.AppendStr
import Derived.Lib.SlBytesConst
import Derived.Laws.AppendOwnNone
import Derived.Laws.OwnMore
import Derived.Laws.BytesArg
import Derived.Deep.RegionHeld3
import Derived.BigQuiet
import Derived.Deep.RegionLaw
import Derived.Deep.QuietTactic
import Derived.Lib.OthersKept
import Derived.Test.YtbcnalabalegfaaProg
import Derived.Deep.DeepFit
import Derived.Test.YtbcnalabalegfaaDsC
set_option linter.unusedVariables false
set_option linter.unusedSimpArgs false
namespace Go.Proofs.Ytbcnalabalegfaa
open Go Go.RowKit Go.Shelf
open Go.Proofs (encStr)
variable {W W' : World} {B m n : Nat} {g : List UInt8 → Option Nat} {sl : List UInt8 → Value} {d : Dsk} {S : Nat → Prop}

theorem chg_no {d : Dsk} (h : ¬ 0 < d.fuse) : d.chg = d := by unfold Dsk.chg; rw [if_neg h]
theorem chg_yes {d : Dsk} (h : 0 < d.fuse) : d.chg = { d with fuse := d.fuse - 1, down := decide (d.fuse - 1 = 0) } := by unfold Dsk.chg; rw [if_pos h]
theorem DKat.chgd (h : DKat W B m n g sl d S) (hf : 0 < d.fuse) : DKat ((W.setCell ⟨B, 3, none⟩ (.int .i64 (d.fuse - 1))).setCell ⟨B, 4, none⟩ (.bool (decide (d.fuse - 1 = 0)))) B m n g sl d.chg S := by
  rw [chg_yes hf]
  exact (h.set3 _).set4 _
theorem chgW (h : DKat W B m n g sl d S) (u v : Value) : Chg S W ((W.setCell ⟨B, 3, none⟩ u).setCell ⟨B, 4, none⟩ v) ∧ ((W.setCell ⟨B, 3, none⟩ u).setCell ⟨B, 4, none⟩ v).heap.size = W.heap.size :=
  ⟨(Chg.set W ⟨B, 3, none⟩ u h.inB).trans (Chg.set _ ⟨B, 4, none⟩ v h.inB), by simp [World.setCell]⟩
set_option maxRecDepth 100000 in
set_option maxHeartbeats 2000000 in
/-- **change** -/
theorem dchange_any (w : World) (h : DKat w B m n g sl d S) (hdn : d.down = false) (hsm : d.small) (fn : Nat) (caps : Array Value) (hen : ∀ w, (callFunc fn caps).run Try.prog w = .ok (.enter fn caps) w) (Q : World → Prop)
    (hdo : ∀ w1, DKat w1 B m n g sl d.chg S → Chg S w w1 → w1.heap.size = w.heap.size → d.chg.down = false → Calls Try.prog fn caps w1 fun e w' => e = .returned (.tuple #[]) ∧ Q w') :
    Calls Try.prog 15 #[.pointer (some ⟨B, 0, none⟩), .func (.func fn) #[] caps] w fun e w' =>
      (d.chg.down = true ∧ e = .returned (.int .i64 10) ∧ DKat w' B m n g sl d.chg S ∧ Chg S w w' ∧ w'.heap.size = w.heap.size) ∨ (d.chg.down = false ∧ e = .returned (.int .i64 0) ∧ Q w') := by
  obtain ⟨c0, c1, c2, c3, c4⟩ := h.cells.cell
  have f3 := h.cells.frozen 3
  have f4 := h.cells.frozen 4
  rw [hdn] at c4
  obtain ⟨s1, s2, s3, s4, s5, s6⟩ := hsm
  by_cases hf : 0 < d.fuse
  · have hk := h.chgd hf
    obtain ⟨f, hfe⟩ : ∃ f, d.fuse = f := ⟨_, rfl⟩
    have hc := fun u v => chgW h u v
    rw [hfe] at c3 hf s5 s6 hk
    have hdd : d.chg.down = decide (f - 1 = 0) := by rw [chg_yes (by rw [hfe]; exact hf), hfe]
    have HK := Lib.hid hk
    have HC := Lib.hid hc
    have HD := Lib.hid hdd
    have hx : IntKind.i64.wrap (f - 1) = f - 1 := IntWalk.i64_in _ (by omega)
    have d1 : decide (0 < f) = true := decide_eq_true hf
    by_cases h1 : f = 1
    · subst h1
      have HDO := Lib.hid hdo
      clear hk hc hdd hdo h hfe hdn
      go_enter Try.func15, Try.ntmps15
      go_wp2
      go_ret
      exact .inl ⟨HD.out, rfl, HK.out, (HC.out _ _).1, (HC.out _ _).2⟩
    · have e0 : (f - 1 == 0) = false := by simp; omega
      have e0' : decide (f - 1 = 0) = false := decide_eq_false (by omega)
      rw [e0'] at hdd hk
      have HDF : Hid (d.chg.down = false) := hdd
      have hd2 := hdo _ hk (hc _ _).1 (hc _ _).2 hdd
      have HDO := Lib.hid hd2
      clear hk hc hdd hdo h hfe hdn hd2 HD HK
      go_enter Try.func15, Try.ntmps15
      go_wp2_with fail
      refine HDO.out.mono ?_
      rintro e w1 ⟨rfl, hq⟩
      have HQ := Lib.hid hq
      clear hq HDO HC
      go_wp2
      go_ret
      exact .inr ⟨HDF.out, rfl, HQ.out⟩
  · have hcg := chg_no hf
    have d1 : decide (0 < d.fuse) = false := decide_eq_false hf
    have hdf : d.chg.down = false := by rw [hcg]; exact hdn
    have hd2 := hdo w (by rw [hcg]; exact h) (Chg.refl _ _) rfl hdf
    obtain ⟨f, hfe⟩ : ∃ f, d.fuse = f := ⟨_, rfl⟩
    rw [hfe] at c3 hf d1
    have HDF := Lib.hid hdf
    have HDO := Lib.hid hd2
    clear hcg hdf hd2 hdo h hfe
    go_enter Try.func15, Try.ntmps15
    go_wp2_with fail
    refine HDO.out.mono ?_
    rintro e w1 ⟨rfl, hq⟩
    have HQ := Lib.hid hq
    clear hq HDO
    go_wp2
    go_ret
    exact .inr ⟨HDF.out, rfl, HQ.out⟩
end Go.Proofs.Ytbcnalabalegfaa

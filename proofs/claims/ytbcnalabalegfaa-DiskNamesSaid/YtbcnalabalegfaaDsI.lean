/- on a disk that is down; Sync, Delete. -/
import Derived.RangeFuncNested
import Derived.RangeFuncBound
import Derived.RangeFuncCalls
import Derived.RangeFuncLeaves
import Derived.Shelf.Abstract
import Derived.Shelf.RegionOpen
import Derived.WalkKit
import Derived.OwnWalkIn
import Derived.TacticsInMore
import Derived.LoopNIn
import Derived.LoopIn
import Derived.Outline
import Derived.Lib.Hide
import Derived.Lib.SliceRun
import Derived.IntWalk
import Derived.WalkLawsBesides
import Derived.WalkSpells
import Derived.Laws.BitsAllLaws
import Derived.Lib.ConvBytes
import Derived.Maps.AppendAt
import Derived.Lib.AppendStr
import Derived.Lib.SlBytesConst
import Derived.Laws.AppendOwnNone
import Derived.Laws.OwnMore
import Derived.Laws.BytesArg
import Derived.Deep.RegionHeld3
import Derived.BigQuiet
import Derived.Deep.RegionLaw
import Derived.Deep.QuietTactic
import Derived.Lib.OthersKept
import Derived.Test.YtbcnalabalegfaaProg
import Derived.Deep.DeepFit
import Derived.Test.YtbcnalabalegfaaDsH
set_option linter.unusedVariables false
set_option linter.unusedSimpArgs false
namespace Go.Proofs.Ytbcnalabalegfaa
open Go Go.RowKit Go.Shelf
open Go.Proofs (encStr)
variable {W W' : World} {B m n : Nat} {g : List UInt8 → Option Nat} {sl : List UInt8 → Value} {d : Dsk} {S : Nat → Prop}

set_option maxRecDepth 100000 in
set_option maxHeartbeats 2000000 in
/-- **on**, of a disk that is down -/
theorem don_dead (w : World) (h : DKat w B m n g sl d S) (hdn : d.down = true) (ns : List (List UInt8)) (v : Value) (hv : TS w v ns) (fn : Nat) (caps : Array Value) :
    Calls Try.prog 17 #[.pointer (some ⟨B, 0, none⟩), .func (.func fn) #[] caps, v] w fun e w' => e = .returned (.int .i64 10) ∧ Below w.heap.size w w' := by
  obtain ⟨W0, hW0⟩ : ∃ q, w.alloc (.cells #[.func (.func fn) #[] caps] 44) = q := ⟨_, rfl⟩
  have hb0 : Below w.heap.size w W0 := by rw [← hW0]; exact (Below.refl w.heap.size w).alloc (Nat.le_refl _) _
  have hk0 := h.below hb0
  have hv0 := hv.below hb0
  have HA := Lib.hid (dasked_dead W0 B m d.room d.used d.fuse v ns (hk0.cells |> fun q => by rw [hdn] at q; exact q) hv0)
  obtain ⟨A, c, rfl, -, -⟩ := id hv0
  have HB0 := Lib.hid hb0
  clear hk0 hb0 h hv hv0
  go_enter Try.func17, Try.ntmps17
  go_wp2_with fail
  refine HA.out.mono ?_
  rintro e w1 ⟨rfl, hw⟩
  rw [hw]
  clear hw HA
  go_wp2
  go_ret
  exact ⟨rfl, HB0.out⟩
theorem safe_some {d : Dsk} {x b : List UInt8} {s : Nat} (h : d.f x = some (b, s)) : d.safe x = { d with f := updF d.f x (some (b, b.length)) } := by
  unfold Dsk.safe; rw [h]; rfl
theorem chg_f (d : Dsk) : d.chg.f = d.f := by unfold Dsk.chg; split <;> rfl
theorem chg_used (d : Dsk) : d.chg.used = d.used := by unfold Dsk.chg; split <;> rfl
theorem chg_room (d : Dsk) : d.chg.room = d.room := by unfold Dsk.chg; split <;> rfl
/-- a file's safe bytes -/
theorem DKat.safeF (h : DKat W B m n g sl d S) {x : List UInt8} {F : Nat} (hg : g x = some F) {b : List UInt8} {s : Nat} (hf : d.f x = some (b, s)) {s' : Nat} (hs : s' ≤ b.length) :
    DKat (W.setCell ⟨F, 1, none⟩ (.int .i64 (s' : Int))) B m n g sl { d with f := updF d.f x (some (b, s')) } S := by
  obtain ⟨b0, s0, h1, h2, h2', h3, h4, h5, h6⟩ := h.file x F hg
  rw [hf] at h1; cases h1
  have hgx : (g x).isSome = true := by rw [hg]; rfl
  have := h.setF (W' := W.setCell ⟨F, 1, none⟩ (.int .i64 (s' : Int))) hg (S' := S) (fun b hb => hb) (fun r hr => by have := h.lt r hr; simp [World.setCell]; omega) (fun r hr hne hne' => heap_setCell_other W ⟨F, 1, none⟩ r _ hne) (sl x) b s' hs h2' (h3.set1 _)
    (ownsRow_blk h4 fun r hr => heap_setCell_other W ⟨F, 1, none⟩ r _ (fun e => by subst e; exact ((h.neB hg).2.2 x r hgx hr).2.2 rfl)) (fun r hr => ⟨h6 r hr, fun _ => hr⟩)
  have e : (fun y => if y = x then sl x else sl y) = sl := by funext y; by_cases e : y = x; rw [if_pos e, e]; rw [if_neg e]
  rw [e] at this
  exact this
set_option maxRecDepth 100000 in
/-- **Sync's change** -/
theorem dsync1_any (w : World) (F : Nat) (A : Option Addr) (n c : Nat) (safe : Int) (h : FC w F (.slice A n c) safe) :
    Calls Try.prog 18 #[.pointer (some ⟨F, 0, none⟩)] w fun e w' => e = .returned (.tuple #[]) ∧ w' = w.setCell ⟨F, 1, none⟩ (.int .i64 (n : Int)) := by
  obtain ⟨c0, c1⟩ := h.cell
  have f1 := h.frozen 1
  clear h
  go_enter Try.func18, Try.ntmps18
  go_wp2
  go_end0
  exact ⟨rfl, rfl⟩
set_option maxRecDepth 100000 in
set_option maxHeartbeats 2000000 in
/-- **Sync** -/
theorem dsync_any (w : World) (h : DK w B n d S) (hdn : d.down = false) (hsm : d.small) (x : List UInt8) (hok : okNm x) (hex : (d.f x).isSome = true) :
    Calls Try.prog 9 #[.pointer (some ⟨B, 0, none⟩), encStr x] w fun e w' => e = .returned (.int .i64 (if d.chg.down then 10 else 0)) ∧ DPost w B n (if d.chg.down then d.chg else d.chg.safe x) S w' := by
  obtain ⟨m, g, sl, h⟩ := h
  obtain ⟨⟨b, s⟩, hf⟩ := Option.isSome_iff_exists.1 hex
  rcases h.at_ x with ⟨h1, h2⟩ | ⟨F, b0, s0, hg, hf', h2, h2', h3, h4, h5, h6⟩
  · rw [hf] at h1; cases h1
  rw [hf] at hf'; cases hf'
  have hb0 := (Below.refl w.heap.size w).alloc (Nat.le_refl _) (.cells #[encStr x] 9)
  have hk0 := h.below hb0
  have HO := Lib.hid (don_some (w.alloc (.cells #[encStr x] 9)) hk0 hdn hsm x [] (by simpa using hok) (by simp) _ (TS_lit w x) 18 F #[] hg (fun _ => rfl) (fun w' => DPost w B n (d.chg.safe x) S w')
    (fun w1 k1 k2 k3 => by
      obtain ⟨b1, s1, q1, q2, q2', q3, q4, q5, q6⟩ := k1.file x F hg
      rw [chg_f, hf] at q1; cases q1
      obtain ⟨A, cp, hsl, -, -, -⟩ := q4.reads.form
      rw [hsl] at q3
      refine (dsync1_any w1 F A b.length cp _ q3).mono ?_
      rintro e w' ⟨rfl, rfl⟩
      refine ⟨rfl, S, ⟨m, g, sl, ?_⟩, ((Chg.of_below hb0).trans k2).trans (Chg.set _ _ _ q5), Fr.refl _ _⟩
      rw [safe_some (d := d.chg) (by rw [chg_f]; exact hf)]
      exact k1.safeF hg (by rw [chg_f]; exact hf) (Nat.le_refl _)))
  obtain ⟨rr, hrr⟩ : ∃ q : Int, (if d.chg.down then (10 : Int) else 0) = q := ⟨_, rfl⟩
  obtain ⟨dd, hdd⟩ : ∃ q : Dsk, (if d.chg.down then d.chg else d.chg.safe x) = q := ⟨_, rfl⟩
  rw [hrr, hdd]
  have HRR := Lib.hid hrr
  have HDD := Lib.hid hdd
  have HB0 := Lib.hid hb0
  clear hk0 hb0 hdn hsm h hrr hdd hf hg h2 h2' h3 h4 h5 h6 hex
  go_enter Try.func9, Try.ntmps9
  go_wp2_with fail
  refine HO.out.mono ?_
  rintro e w2 (⟨q1, rfl, q2, q3⟩ | ⟨q1, rfl, q2⟩)
  · obtain rfl : rr = 10 := by rw [← HRR.out, if_pos q1]
    obtain rfl : dd = d.chg := by rw [← HDD.out, if_pos q1]
    have HP : Hid (DPost w B n d.chg S w2) := ⟨S, ⟨_, _, _, q2⟩, (Chg.of_below HB0.out).trans q3, Fr.refl _ _⟩
    clear q1 q2 q3 HO
    go_wp2
    go_ret
    exact ⟨rfl, HP.out⟩
  · obtain rfl : rr = 0 := by rw [← HRR.out, if_neg (by rw [q1]; simp)]
    obtain rfl : dd = d.chg.safe x := by rw [← HDD.out, if_neg (by rw [q1]; simp)]
    have HP := Lib.hid q2
    clear q1 q2 HO
    go_wp2
    go_ret
    exact ⟨rfl, HP.out⟩
end Go.Proofs.Ytbcnalabalegfaa

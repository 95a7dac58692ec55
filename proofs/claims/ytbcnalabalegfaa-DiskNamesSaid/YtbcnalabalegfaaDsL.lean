/- Rename; Read; Arm. -/
import Derived.RangeFuncNested
import Derived.RangeFuncBound
import Derived.RangeFuncCalls
import Derived.RangeFuncLeaves
import Derived.Shelf.Abstract
import Derived.Shelf.RegionOpen
import Derived.WalkKit
import Derived.OwnWalkIn
import Derived.TacticsInMore
import Derived.LoopNIn
import Derived.LoopIn
import Derived.Outline
import Derived.Lib.Hide
import Derived.Lib.SliceRun
import Derived.IntWalk
import Derived.WalkLawsBesides
import Derived.WalkSpells
import Derived.Laws.BitsAllLaws
import Derived.Lib.ConvBytes
import Derived.Maps.AppendAt
import Derived.Lib.AppendStr
import Derived.Lib.SlBytesConst
import Derived.Laws.AppendOwnNone
import Derived.Laws.OwnMore
import Derived.Laws.BytesArg
import Derived.Deep.RegionHeld3
import Derived.BigQuiet
import Derived.Deep.RegionLaw
import Derived.Deep.QuietTactic
import Derived.Lib.OthersKept
import Derived.Test.YtbcnalabalegfaaProg
import Derived.Deep.DeepFit
import Derived.Test.YtbcnalabalegfaaDsK
set_option linter.unusedVariables false
set_option linter.unusedSimpArgs false
namespace Go.Proofs.Ytbcnalabalegfaa
open Go Go.RowKit Go.Shelf
open Go.Proofs (encStr)
variable {W W' : World} {B m n : Nat} {g : List UInt8 → Option Nat} {sl : List UInt8 → Value} {d : Dsk} {S : Nat → Prop}

theorem TS_lit2 (w : World) (s t : List UInt8) : TS (w.alloc (.cells #[encStr s, encStr t] 9)) (.slice (some ⟨w.heap.size, 0, none⟩) 2 2) [s, t] := by
  refine ⟨some ⟨w.heap.size, 0, none⟩, 2, rfl, ⟨Nat.le_refl _, by omega⟩, fun i hi => ⟨w.heap.size, 0, rfl, ?_⟩⟩
  simp only [Nat.zero_add]
  rw [World.cell?, heap_alloc_new]
  match i, hi with
  | 0, _ => rfl
  | 1, _ => rfl
set_option maxRecDepth 100000 in
set_option maxHeartbeats 4000000 in
/-- **Read**, a file that is there -/
theorem dread_any (w : World) (h : DK w B n d S) (hdn : d.down = false) (x : List UInt8) (hok : okNm x) (b : List UInt8) (s : Nat) (hf : d.f x = some (b, s)) (hbl : b.length ≤ 100000000) :
    Calls Try.prog 13 #[.pointer (some ⟨B, 0, none⟩), encStr x] w fun e w' => ∃ v, e = .returned (.tuple #[v, .int .i64 0]) ∧ OB w' w.heap.size v b ∧ Below w.heap.size w w' := by
  obtain ⟨m, g, sl, h⟩ := h
  have hnl := hok.len
  rcases h.at_ x with ⟨h1, h2⟩ | ⟨F, b0, s0, hg, hf', -⟩
  · rw [hf] at h1; cases h1
  rw [hf] at hf'; cases hf'
  have HA := Lib.hid (dasked_ok (w.alloc (.cells #[encStr x] 9)) B m d.room d.used d.fuse _ [x] ((h.alloc (.cells #[encStr x] 9)).cells |> fun q => by rw [hdn] at q; exact q) (TS_lit w x) (by simpa using hok) (by simp))
  have hb0 := (Below.refl w.heap.size w).alloc (Nat.le_refl _) (.cells #[encStr x] 9)
  have HH := Lib.hid h
  have HB0 := Lib.hid hb0
  have HG := Lib.hid hg
  have HF := Lib.hid hf
  have HBL := Lib.hid hbl
  clear h hdn hok hg hf hbl hb0
  go_enter Try.func13, Try.ntmps13
  go_wp2_with fail
  refine HA.out.mono ?_
  rintro e w1 ⟨rfl, hb1⟩
  have hbl := HB0.out.trans (hb1.mono (by rw [alloc_size]; omega))
  have hk := HH.out.below hbl
  obtain ⟨c0, c1, c2, c3, c4⟩ := hk.cells.cell
  obtain ⟨b1, s1, q1, q2, q2', q3, q4, q5, q6⟩ := hk.file x F HG.out
  rw [HF.out] at q1
  have eqb : b1 = b := by simp at q1; exact q1.1.symm
  subst eqb
  have hlook := hk.map.look (t := 35) (e := 39) keyS Try.underlying35 (fun w => by kernel_rfl) (keyOfS x (by omega))
  rw [HG.out] at hlook
  have hlook' : (Instr.lookup 35 (.map (some m)) (encStr x) false).run Try.prog w1 = .ok (.pointer (some ⟨F, 0, none⟩)) w1 := hlook
  obtain ⟨A0, cp0, hv0e, -, -, -⟩ := q4.reads.form
  rw [hv0e] at q3 q4
  obtain ⟨f0, f1⟩ := q3.cell
  have hcl := sclone_any _ b1 w1 (by have := HBL.out; omega) q4.reads
  have HCL := Lib.hid hcl
  have HBW := Lib.hid hbl
  clear hk hbl q1 q2 q2' q3 q4 q5 q6 hlook hv0e hcl hb1 HA HB0
  go_wp2_with fail
  refine HCL.out.mono ?_
  rintro e w2 ⟨v', rfl, ho, hb2⟩
  have HO := Lib.hid (ho.mono HBW.out.size)
  have HB2 := Lib.hid (HBW.out.trans (hb2.mono HBW.out.size))
  clear ho hb2 HCL
  go_wp2
  refine bodyPost_ret (results_tmp2 rfl _ _ _) (by rfl) ?_
  exact ⟨_, rfl, HO.out, HB2.out⟩
set_option maxRecDepth 100000 in
set_option maxHeartbeats 2000000 in
/-- **Arm** -/
theorem darm_any (w : World) (h : DK w B n d S) (hdn : d.down = false) (k : Int) :
    Calls Try.prog 10 #[.pointer (some ⟨B, 0, none⟩), .int .i64 k] w fun e w' => e = .returned (.tuple #[]) ∧ DPost w B n { d with fuse := max k 0 } S w' := by
  obtain ⟨m, g, sl, h⟩ := h
  have H := Lib.hid (ddown_any w B m d.room d.used d.fuse false (by have := h.cells; rw [hdn] at this; exact this))
  obtain ⟨c0, c1, c2, c3, c4⟩ := h.cells.cell
  have f3 := h.cells.frozen 3
  obtain ⟨q, hq⟩ : ∃ q, max k 0 = q := ⟨_, rfl⟩
  rw [hq]
  have HH := Lib.hid h
  clear h
  go_enter Try.func10, Try.ntmps10
  go_wp2_with fail
  refine H.out.mono ?_
  rintro e w1 ⟨rfl, rfl⟩
  have hfin : ∀ z, z = q → DPost w1 B n { d with fuse := q } S (w1.setCell ⟨B, 3, none⟩ (.int .i64 z)) := fun z hz => by rw [hz]; exact ⟨S, ⟨_, _, _, HH.out.set3 q⟩, Chg.set _ _ _ HH.out.inB, Fr.refl _ _⟩
  have HFIN := Lib.hid hfin
  clear hfin
  by_cases hk : 0 ≤ k
  · have hqk : k = q := by omega
    go_wp2
    go_end0
    first | exact ⟨rfl, HFIN.out _ rfl⟩ | exact ⟨rfl, HFIN.out _ hqk⟩
  · have hqk : 0 = q := by omega
    go_wp2
    go_end0
    first | exact ⟨rfl, HFIN.out _ rfl⟩ | exact ⟨rfl, HFIN.out _ hqk⟩
end Go.Proofs.Ytbcnalabalegfaa

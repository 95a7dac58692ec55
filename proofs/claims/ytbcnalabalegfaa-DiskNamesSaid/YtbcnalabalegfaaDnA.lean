/- The example of law01; its law of names. -/
import Derived.RangeFuncNested
import Derived.RangeFuncBound
import Derived.RangeFuncCalls
import Derived.RangeFuncLeaves
import Derived.Shelf.Abstract
import Derived.Shelf.RegionOpen
import Derived.WalkKit
import Derived.OwnWalkIn
import Derived.TacticsInMore
import Derived.LoopNIn
import Derived.LoopIn
import Derived.Outline
import Derived.Lib.Hide
import Derived.Lib.SliceRun
import Derived.IntWalk
import Derived.WalkLawsBesides
import Derived.WalkSpells
import Derived.Laws.BitsAllLaws
import Derived.Lib.ConvBytes
import Derived.Maps.AppendAt
import Derived.Lib.AppendStr
import Derived.Lib.SlBytesConst
import Derived.Laws.AppendOwnNone
import Derived.Laws.OwnMore
import Derived.Laws.BytesArg
import Derived.Deep.RegionHeld3
import Derived.BigQuiet
import Derived.Deep.RegionLaw
import Derived.Deep.QuietTactic
import Derived.Lib.OthersKept
import Derived.Test.YtbcnalabalegfaaProg
import Derived.Deep.DeepFit
import Derived.Test.YtbcnalabalegfaaDsP
set_option linter.unusedVariables false
set_option linter.unusedSimpArgs false
namespace Go.Proofs.Ytbcnalabalegfaa
open Go Go.RowKit Go.Shelf
open Go.Proofs (encStr)

/-- a disk made by the call: blocks from n on -/
def DL (w0 : World) (n B k : Nat) (d : Dsk) (W : World) : Prop := ∃ S, DK W B k d S ∧ Below n w0 W ∧ n ≤ W.heap.size ∧ ∀ b, S b → n ≤ b
theorem DL.post {w0 W W' : World} {n B k' : Nat} {d' : Dsk} {S : Nat → Prop} (hb : Below n w0 W) (hn : n ≤ W.heap.size) (hS : ∀ b, S b → n ≤ b) (h : DPost W B k' d' S W') : DL w0 n B k' d' W' := by
  obtain ⟨S', h1, h2, h3⟩ := h
  exact ⟨S', h1, hb.trans (h2.below hn hS), Nat.le_trans hn h2.size, fun b hb => (h3 b hb).elim (hS b) (fun e => Nat.le_trans hn e)⟩
theorem DL.below {w0 W W' : World} {n B k : Nat} {d : Dsk} (h : DL w0 n B k d W) (hb : Below W.heap.size W W') : DL w0 n B k d W' := by
  obtain ⟨S, ⟨m, g, sl, h1⟩, h2, h3, h4⟩ := h
  exact ⟨S, ⟨m, g, sl, h1.below hb⟩, h2.trans (hb.mono h3), Nat.le_trans h3 hb.size, h4⟩
/-- a disk of one file, a -/
def oneD (b : List UInt8) (s : Nat) (used fuse : Int) (down : Bool) : Dsk := ⟨fun y => if y = [97] then some (b, s) else none, 100, used, fuse, down⟩
theorem okA : okNm [97] := by unfold okNm; decide +kernel
theorem one_app0 (b : List UInt8) : (newD 100).app [97] b = oneD b 0 b.length 0 false := by
  unfold Dsk.app newD oneD
  simp only [fold, Option.getD_none, List.nil_append, Int.zero_add]
  congr 1
theorem one_app (b c : List UInt8) (s : Nat) (u f : Int) (dn : Bool) : (oneD b s u f dn).app [97] c = oneD (b ++ c) s (u + c.length) f dn := by
  unfold Dsk.app oneD
  simp only [fold, if_true, Option.getD_some]
  congr 1
  funext y
  unfold updF
  split
  · rfl
  · rename_i h; exact if_neg h
theorem one_safe (b : List UInt8) (s : Nat) (u f : Int) (dn : Bool) : (oneD b s u f dn).safe [97] = oneD b b.length u f dn := by
  unfold Dsk.safe oneD
  congr 1
  funext y
  simp only [updF, if_true, Option.map_some]
  split <;> rfl
theorem one_chg0 (b : List UInt8) (s : Nat) (u : Int) : (oneD b s u 0 false).chg = oneD b s u 0 false := chg_no (by show ¬ (0 : Int) < 0; omega)
theorem one_chg1 (b : List UInt8) (s : Nat) (u : Int) : (oneD b s u 1 false).chg = oneD b s u 0 true := by
  rw [chg_yes (by show (0 : Int) < 1; omega)]
  rfl
theorem one_small (b : List UInt8) (s : Nat) (u : Int) (hu : 0 ≤ u ∧ u ≤ 100) (f : Int) (hf : 0 ≤ f ∧ f ≤ 1) (dn : Bool) : (oneD b s u f dn).small := ⟨by show _ ≤ u; omega, by show u ≤ _; omega, by show _ ≤ (100 : Int); omega, by show (100 : Int) ≤ _; omega, hf.1, by show f ≤ _; omega⟩
theorem one_start : startD (oneD [49, 50, 51, 52, 53, 54, 55, 56] 5 8 0 true) [2] [[97]] = oneD [49, 50, 51, 52, 53, 54, 55] 7 7 0 false := by
  unfold startD
  have h := stS_tail (keep := [2]) (p := (oneD [49, 50, 51, 52, 53, 54, 55, 56] 5 8 0 true, 0)) (x := [97]) (b := [49, 50, 51, 52, 53, 54, 55, 56]) (s := 5) rfl (by decide) 2 (by decide)
  rw [List.foldl_cons, List.foldl_nil, h]
  unfold oneD
  simp only []
  congr 1
  funext y
  unfold updF
  split
  · rfl
  · rename_i h; exact if_neg h
theorem st_append {w0 W : World} {n B k : Nat} {d : Dsk} (hl : DL w0 n B k d W) (hdn : d.down = false) (hsm : d.small) (v : Value) (c : List UInt8) (hv : SB W v c) (hcl : c.length ≤ 1000) (hroom : (c.length : Int) ≤ d.room - d.used) (hfl : flen (d.f [97]) ≤ 1000) (hk : k ≤ 1000) (d' : Dsk) (hd' : (d.app [97] c).chg = d') (r : Int) (hr : r = if d'.down then 10 else 0) :
    Calls Try.prog 8 #[.pointer (some ⟨B, 0, none⟩), .string ⟨#[97]⟩, v] W fun e w' => e = .returned (.int .i64 r) ∧ DL w0 n B (k + 1) d' w' := by
  obtain ⟨S, h1, h2, h3, h4⟩ := hl
  subst hd' hr
  refine (dappend_any W h1 hdn hsm [97] okA v c hv (by omega) hroom (by omega) (by omega)).mono ?_
  rintro e w' ⟨e1, e2⟩
  exact ⟨e1, DL.post h2 h3 h4 e2⟩
theorem st_sync {w0 W : World} {n B k : Nat} {d : Dsk} (hl : DL w0 n B k d W) (hdn : d.down = false) (hsm : d.small) (hex : (d.f [97]).isSome = true) (d' : Dsk) (hd' : (if d.chg.down then d.chg else d.chg.safe [97]) = d') (r : Int) (hr : r = if d.chg.down then 10 else 0) :
    Calls Try.prog 9 #[.pointer (some ⟨B, 0, none⟩), .string ⟨#[97]⟩] W fun e w' => e = .returned (.int .i64 r) ∧ DL w0 n B k d' w' := by
  obtain ⟨S, h1, h2, h3, h4⟩ := hl
  subst hd' hr
  refine (dsync_any W h1 hdn hsm [97] okA hex).mono ?_
  rintro e w' ⟨e1, e2⟩
  exact ⟨e1, DL.post h2 h3 h4 e2⟩
theorem st_arm {w0 W : World} {n B k : Nat} {d : Dsk} (hl : DL w0 n B k d W) (hdn : d.down = false) (q : Int) (d' : Dsk) (hd' : ({ d with fuse := max q 0 } : Dsk) = d') :
    Calls Try.prog 10 #[.pointer (some ⟨B, 0, none⟩), .int .i64 q] W fun e w' => e = .returned (.tuple #[]) ∧ DL w0 n B k d' w' := by
  obtain ⟨S, h1, h2, h3, h4⟩ := hl
  subst hd'
  refine (darm_any W h1 hdn q).mono ?_
  rintro e w' ⟨e1, e2⟩
  exact ⟨e1, DL.post h2 h3 h4 e2⟩
theorem st_down {w0 W : World} {n B k : Nat} {d : Dsk} (hl : DL w0 n B k d W) : Calls Try.prog 11 #[.pointer (some ⟨B, 0, none⟩)] W fun e w' => e = .returned (.bool d.down) ∧ w' = W := by
  obtain ⟨S, ⟨m, g, sl, h1⟩, h2, h3, h4⟩ := hl
  exact ddown_any W B m d.room d.used d.fuse d.down h1.cells
theorem st_start {w0 W : World} {n B k : Nat} {d : Dsk} (hl : DL w0 n B k d W) (hdn : d.down = true) (hsm : d.small) (hk : k ≤ 1000) (t : TypeId) (q : Int) (ns : List (List UInt8)) (hup : Up ns) (hmem : ∀ x, x ∈ ns ↔ (d.f x).isSome = true) (hxl : ∀ x ∈ ns, x.length ≤ 100) (hnl : ns.length ≤ 1000) (d' : Dsk) (hd' : startD d [q] ns = d') :
    Calls Try.prog 12 #[.pointer (some ⟨B, 0, none⟩), .slice (some ⟨W.heap.size, 0, none⟩) 1 1] (W.alloc (.cells #[.int .i64 q] t)) fun e w' => e = .returned (.tuple #[]) ∧ DL w0 n B k d' w' := by
  obtain ⟨S, ⟨m, g, sl, h1⟩, h2, h3, h4⟩ := hl
  subst hd'
  have hb := (Below.refl W.heap.size W).alloc (Nat.le_refl _) (.cells #[.int .i64 q] t)
  refine (dstart_any (W.alloc (.cells #[.int .i64 q] t)) (h1.below hb) hdn hsm (by omega) _ [q] ⟨⟨some ⟨W.heap.size, 0, none⟩, 1, rfl, by simp, fun i hi => ⟨W.heap.size, 0, rfl, ?_⟩⟩, fun _ => ⟨W.heap.size, rfl, fun hS => ?_⟩⟩ (by simp) ns hup hmem (fun x hx => by have := hxl x hx; omega) (by omega)).mono ?_
  · obtain rfl : i = 0 := by simpa using hi
    simp only [Nat.zero_add]
    rw [World.cell?, heap_alloc_new]
    rfl
  · have := h1.lt _ hS
    omega
  · rintro e w' ⟨e1, e2⟩
    exact ⟨e1, DL.post (h2.trans (hb.mono h3)) (Nat.le_trans h3 hb.size) h4 e2⟩
theorem st_read {w0 W : World} {n B k : Nat} {d : Dsk} (hl : DL w0 n B k d W) (hdn : d.down = false) (b : List UInt8) (s : Nat) (hf : d.f [97] = some (b, s)) (hbl : b.length ≤ 1000) :
    Calls Try.prog 13 #[.pointer (some ⟨B, 0, none⟩), .string ⟨#[97]⟩] W fun e w' => ∃ v, e = .returned (.tuple #[v, .int .i64 0]) ∧ SB w' v b ∧ DL w0 n B k d w' := by
  have hl' := hl
  obtain ⟨S, h1, h2, h3, h4⟩ := hl
  refine (dread_any W h1 hdn [97] okA b s hf (by omega)).mono ?_
  rintro e w' ⟨v, e1, e2, e3⟩
  exact ⟨v, e1, e2.reads, hl'.below e3⟩
theorem up_one (x : List UInt8) : Up [x] := by unfold Up; exact List.pairwise_singleton _ _
set_option maxRecDepth 100000 in
set_option maxHeartbeats 4000000 in
/-- **the example of chapter 1** -/
theorem awake01_any (w : World) : Calls Try.prog 4 #[] w fun e w' => e = .returned (.bool true) ∧ Below w.heap.size w w' := by
  have kc := fun (w : World) (C : Array Value) (n c : Nat) => Lib.run_convert_bytes_const (P := Try.prog) w 28 5 C n c Try.underlying28 Try.underlying5
  obtain ⟨n₀, hn₀⟩ : ∃ q, w.heap.size = q := ⟨_, rfl⟩
  rw [hn₀]
  have HN := Lib.hid hn₀
  have h1 := dnew_any 100 (by omega) w
  rw [hn₀] at h1
  have H1 := Lib.hid h1
  clear h1 hn₀
  go_enter Try.func4, Try.ntmps4
  go_wp2_with fail
  refine H1.out.mono ?_
  rintro e w1 ⟨S, rfl, hk1, hb1, hS1⟩
  have hl1 : DL w n₀ (n₀ + 1) 0 (newD 100) w1 := ⟨S, hk1, hb1, by have := hb1.size; have := HN.out; omega, hS1⟩
  have HL1 := Lib.hid hl1
  clear hk1 hb1 hS1 hl1 H1
  have r1 := st_append (HL1.out.below ((Below.refl _ _).alloc (Nat.le_refl _) (.cells #[.int .u8 49, .int .u8 50, .int .u8 51, .int .u8 52, .int .u8 53] 5 (5, 6)))) rfl ⟨by decide, by decide, by decide, by decide, by decide, by decide⟩ _ [49, 50, 51, 52, 53] (SB_mark w1 #[.int .u8 49, .int .u8 50, .int .u8 51, .int .u8 52, .int .u8 53] [49, 50, 51, 52, 53] 5 (5, 6) rfl (by simp) rfl) (by simp) (by decide) (by decide) (by omega) (oneD [49, 50, 51, 52, 53] 0 5 0 false) (by rw [one_app0]; exact one_chg0 _ _ _) 0 rfl
  have R1 := Lib.hid r1
  clear r1 HL1
  go_wp2_with fail
  refine R1.out.mono ?_
  rintro e w2 ⟨rfl, hl2⟩
  have r2 := st_sync hl2 rfl (one_small _ _ _ (by omega) _ (by omega) _) rfl (oneD [49, 50, 51, 52, 53] 5 5 0 false) (by rw [one_chg0]; exact one_safe _ _ _ _ _) 0 rfl
  have R2 := Lib.hid r2
  clear r2 hl2 R1
  go_wp2_with fail
  refine R2.out.mono ?_
  rintro e w3 ⟨rfl, hl3⟩
  have r3 := st_append (hl3.below ((Below.refl _ _).alloc (Nat.le_refl _) (.cells #[.int .u8 54, .int .u8 55, .int .u8 56] 5 (3, 4)))) rfl (one_small _ _ _ (by omega) _ (by omega) _) _ [54, 55, 56] (SB_mark w3 #[.int .u8 54, .int .u8 55, .int .u8 56] [54, 55, 56] 3 (3, 4) rfl (by simp) rfl) (by simp) (by decide) (by decide) (by omega) (oneD [49, 50, 51, 52, 53, 54, 55, 56] 5 8 0 false) (by rw [one_app]; exact one_chg0 _ _ _) 0 rfl
  have R3 := Lib.hid r3
  clear r3 hl3 R2
  go_wp2_with fail
  refine R3.out.mono ?_
  rintro e w4 ⟨rfl, hl4⟩
  have r4 := st_arm hl4 rfl 1 (oneD [49, 50, 51, 52, 53, 54, 55, 56] 5 8 1 false) rfl
  have R4 := Lib.hid r4
  clear r4 hl4 R3
  go_wp2_with fail
  refine R4.out.mono ?_
  rintro e w5 ⟨rfl, hl5⟩
  have r5 := st_sync hl5 rfl (one_small _ _ _ (by omega) _ (by omega) _) rfl (oneD [49, 50, 51, 52, 53, 54, 55, 56] 5 8 0 true) (by rw [one_chg1]; rfl) 10 (by rw [one_chg1]; rfl)
  have R5 := Lib.hid r5
  clear r5 hl5 R4
  go_wp2_with fail
  refine R5.out.mono ?_
  rintro e w6 ⟨rfl, hl6⟩
  have R6 := Lib.hid (st_down hl6)
  have HL6 := Lib.hid hl6
  clear hl6 R5
  go_wp2_with fail
  refine R6.out.mono ?_
  rintro e w7 ⟨rfl, rfl⟩
  have r7 := st_start HL6.out rfl (one_small _ _ _ (by omega) _ (by omega) _) (by omega) 3 2 [[97]] (up_one _) (fun x => by
    unfold oneD
    simp only [List.mem_singleton]
    split
    · rename_i h; simp [h]
    · rename_i h; simp [h]) (by simp) (by simp) _ one_start
  have R7 := Lib.hid r7
  clear r7 R6 HL6
  go_wp2_with fail
  refine R7.out.mono ?_
  rintro e w8 ⟨rfl, hl8⟩
  have r8 := st_read hl8 rfl [49, 50, 51, 52, 53, 54, 55] 7 rfl (by simp)
  have R8 := Lib.hid r8
  clear r8 hl8 R7
  go_wp2_with fail
  refine R8.out.mono ?_
  rintro e w9 ⟨v, rfl, hsb, hl9⟩
  obtain ⟨A, c, rfl, -, -, -⟩ := hsb.form
  have hcv : (convert 28 9 (.slice A 7 c)).run Try.prog w9 = .ok (.string ⟨#[49, 50, 51, 52, 53, 54, 55]⟩) w9 := hsb.str
  have R9 := Lib.hid (st_down hl9)
  have HB : Hid (Below n₀ w w9) := hl9.choose_spec.2.1
  clear hsb hl9 R8
  go_wp2_with fail
  refine R9.out.mono ?_
  rintro e w10 ⟨rfl, rfl⟩
  go_wp2
  go_ret
  exact ⟨rfl, HB.out⟩
set_option maxRecDepth 100000 in
set_option maxHeartbeats 2000000 in
/-- **which names files may have** -/
theorem diskNames_walk (s : ByteArray) (w : World) (hs : s.size ≤ maxLen) : Calls Try.prog 3 #[.string s] w fun e w' => e = .returned (.bool true) ∧ Below w.heap.size w w' := by
  have HA := Lib.hid (awake01_any w)
  unfold maxLen at hs
  go_enter Try.func3, Try.ntmps3
  go_wp2_with fail
  refine HA.out.mono ?_
  rintro e w1 ⟨rfl, hb1⟩
  have HB1 := Lib.hid hb1
  clear hb1 HA
  by_cases h2 : 200 < s.size
  · have d0 : decide (200 < s.size) = true := decide_eq_true h2
    have d1 : decide ((200 : Int) < (s.size : Int)) = true := decide_eq_true (by omega)
    go_wp2
    go_ret
    exact ⟨rfl, HB1.out⟩
  · have d0 : decide (200 < s.size) = false := decide_eq_false h2
    have d1 : decide ((200 : Int) < (s.size : Int)) = false := decide_eq_false (by omega)
    obtain ⟨q, hq⟩ : ∃ q, dnameB s = q := ⟨_, rfl⟩
    have HD := Lib.hid (fun w => dname_any s (by omega) w)
    have HQ := Lib.hid (fun w => qname_any s (by omega) w)
    rw [hq] at HD HQ
    go_wp2_with fail
    refine (HD.out _).mono ?_
    rintro e w2 ⟨rfl, hb2⟩
    have HB2 := Lib.hid (HB1.out.trans (hb2.mono HB1.out.size))
    clear hb2
    go_wp2_with fail
    refine (HQ.out _).mono ?_
    rintro e w3 ⟨rfl, rfl⟩
    cases q with
    | true =>
      go_wp2
      go_ret
      exact ⟨rfl, HB2.out⟩
    | false =>
      go_wp2
      go_ret
      exact ⟨rfl, HB2.out⟩
end Go.Proofs.Ytbcnalabalegfaa

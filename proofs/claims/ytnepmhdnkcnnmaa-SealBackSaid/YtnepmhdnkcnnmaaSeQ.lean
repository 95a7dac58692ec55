/- SealParses, SealBack. -/
import Derived.RangeFuncNested
import Derived.RangeFuncBound
import Derived.RangeFuncCalls
import Derived.RangeFuncLeaves
import Derived.Shelf.Abstract
import Derived.Shelf.RegionOpen
import Derived.WalkKit
import Derived.OwnWalkIn
import Derived.TacticsInMore
import Derived.LoopNIn
import Derived.LoopIn
import Derived.Outline
import Derived.Lib.Hide
import Derived.Lib.SliceRun
import Derived.IntWalk
import Derived.WalkLawsBesides
import Derived.WalkSpells
import Derived.Laws.BitsAllLaws
import Derived.Lib.ConvBytes
import Derived.Maps.AppendAt
import Derived.Lib.AppendStr
import Derived.Lib.SlBytesConst
import Derived.Laws.AppendOwnNone
import Derived.Laws.OwnMore
import Derived.Laws.BytesArg
import Derived.Deep.RegionHeld3
import Derived.BigQuiet
import Derived.Deep.RegionLaw
import Derived.Deep.QuietTactic
import Derived.Lib.OthersKept
import Derived.Test.YtnepmhdnkcnnmaaProg
import Derived.Deep.DeepFit
import Derived.Test.YtnepmhdnkcnnmaaSeP
set_option linter.unusedVariables false
set_option linter.unusedSimpArgs false
namespace Go.Proofs.Ytnepmhdnkcnnmaa
open Go Go.RowKit Go.Shelf

theorem parC_facts (l : List UInt8) : (parC l).length = 66 ∧ (∀ v ∈ parC l, v.oneCell' = true) ∧ ∀ w, (binOp .eql 27 (.agg (parC l).toArray) (.agg (parC l).toArray)).run Try.prog w = .ok (.bool true) w := by
  unfold parC
  split
  case isTrue h =>
    have h72 : l.length = 72 := by unfold parOk at h; simp at h; exact h.1
    have h1 : ((l.drop 8).take 32).length = 32 := by simp [h72]
    have h2 : (l.drop 40).length = 32 := by simp [h72]
    exact ⟨sealC_len _ _ _ _ h1 h2, sealC_one _ _ _ _, fun w => by rw [run_eql_seal _ _ _ _ _ _ _ _ h1 h2 h1 h2]; simp⟩
  case isFalse h =>
    exact ⟨by decide, sealC_one 0 0 (List.replicate 32 0) (List.replicate 32 0), fun w => by
      have := run_eql_seal 0 0 0 0 (List.replicate 32 0) (List.replicate 32 0) (List.replicate 32 0) (List.replicate 32 0) rfl rfl rfl rfl w
      rw [this]; simp⟩

set_option maxHeartbeats 2000000 in
set_option maxRecDepth 100000 in
theorem sealParses_walk (v : Value) (l : List UInt8) (w : World) (hv : SB w v l) :
    Calls Try.prog 8 #[v] w fun e w' => e = .returned (.bool true) ∧ Below w.heap.size w w' := by
  obtain ⟨C, cc, rfl, -, -, -⟩ := hv.form
  obtain ⟨A, hA⟩ : ∃ A, w.heap.size = A := ⟨_, rfl⟩
  have hof := fun w' hb => sparse_any _ l w' (hv.below (W' := w') hb)
  have hqf := fun w' hb => tparse_any _ l w' (hv.below (W' := w') hb)
  obtain ⟨hol, hoo, heq⟩ := parC_facts l
  have hoi := info66 _ hol
  have hoo := all_oneCell_toArray hoo
  obtain ⟨oc, hoc⟩ : ∃ oc, parC l = oc := ⟨_, rfl⟩
  obtain ⟨oe, hoe⟩ : ∃ oe, parE l = oe := ⟨_, rfl⟩
  obtain ⟨n, hn⟩ : ∃ n, l.length = n := ⟨_, rfl⟩
  simp only [hoc, hoe, hn, hA] at hof hqf
  rw [hoc] at hol hoo hoi heq
  rw [hn]
  have HO := Lib.hid hof
  have HQ := Lib.hid hqf
  have HOL := Lib.hid hol
  have HOO := Lib.hid hoo
  have HOI := Lib.hid hoi
  have HEQ := Lib.hid heq
  have HA := Lib.hid hA
  clear hof hqf hol hoo hoi heq hoc hoe hn hv
  have dee : (oe == oe) = true := by simp
  have kz := zeroSeal
  go_enter Try.func8, Try.ntmps8
  go_wp2_with fail
  refine (awake06_any _).mono ?_
  rintro e w1 ⟨rfl, hb1⟩
  have m00 : Mine A w w := ⟨Nat.le_of_eq HA.out.symm, Below.refl _ _⟩
  have M1 := Lib.hid (m00.call hb1)
  clear m00
  clear hb1
  by_cases h : n ≤ 200
  · have d1 : decide (200 < n) = false := by simp; omega
    have d2 : decide ((200 : Int) < (n : Int)) = false := by simp; omega
    go_wp2_with fail
    refine (HO.out _ M1.out.bel).mono ?_
    rintro e w2 ⟨rfl, hb2⟩
    obtain ⟨W2, hW2, q2, hkeep2, hc2⟩ := filledS w2 #[.int .i64 0, .int .i64 0, .int .u8 0, .int .u8 0, .int .u8 0, .int .u8 0, .int .u8 0, .int .u8 0, .int .u8 0, .int .u8 0, .int .u8 0, .int .u8 0, .int .u8 0, .int .u8 0, .int .u8 0, .int .u8 0, .int .u8 0, .int .u8 0, .int .u8 0, .int .u8 0, .int .u8 0, .int .u8 0, .int .u8 0, .int .u8 0, .int .u8 0, .int .u8 0, .int .u8 0, .int .u8 0, .int .u8 0, .int .u8 0, .int .u8 0, .int .u8 0, .int .u8 0, .int .u8 0, .int .u8 0, .int .u8 0, .int .u8 0, .int .u8 0, .int .u8 0, .int .u8 0, .int .u8 0, .int .u8 0, .int .u8 0, .int .u8 0, .int .u8 0, .int .u8 0, .int .u8 0, .int .u8 0, .int .u8 0, .int .u8 0, .int .u8 0, .int .u8 0, .int .u8 0, .int .u8 0, .int .u8 0, .int .u8 0, .int .u8 0, .int .u8 0, .int .u8 0, .int .u8 0, .int .u8 0, .int .u8 0, .int .u8 0, .int .u8 0, .int .u8 0, .int .u8 0] oc
    have RN2 := Lib.hid (Row.new w2 #[.int .i64 0, .int .i64 0, .int .u8 0, .int .u8 0, .int .u8 0, .int .u8 0, .int .u8 0, .int .u8 0, .int .u8 0, .int .u8 0, .int .u8 0, .int .u8 0, .int .u8 0, .int .u8 0, .int .u8 0, .int .u8 0, .int .u8 0, .int .u8 0, .int .u8 0, .int .u8 0, .int .u8 0, .int .u8 0, .int .u8 0, .int .u8 0, .int .u8 0, .int .u8 0, .int .u8 0, .int .u8 0, .int .u8 0, .int .u8 0, .int .u8 0, .int .u8 0, .int .u8 0, .int .u8 0, .int .u8 0, .int .u8 0, .int .u8 0, .int .u8 0, .int .u8 0, .int .u8 0, .int .u8 0, .int .u8 0, .int .u8 0, .int .u8 0, .int .u8 0, .int .u8 0, .int .u8 0, .int .u8 0, .int .u8 0, .int .u8 0, .int .u8 0, .int .u8 0, .int .u8 0, .int .u8 0, .int .u8 0, .int .u8 0, .int .u8 0, .int .u8 0, .int .u8 0, .int .u8 0, .int .u8 0, .int .u8 0, .int .u8 0, .int .u8 0, .int .u8 0, .int .u8 0] 27)
    have HW2 := Lib.hid hW2
    have M2 := Lib.hid ((M1.out.call hb2).call hc2)
    have Q2 := Lib.hid q2
    clear hb2 hW2 q2 hkeep2 hc2
    go_wp2_with (first
      | (refine RN2.out.store (m := oc) rfl 27 (.tmp 3) (.tmp 15) rfl rfl rfl HOI.out (by rw [HOL.out]; rfl) HOO.out ?_)
      | (rw [HW2.out]; fail_if_success (rw [HW2.out])))
    refine (HQ.out _ M2.out.bel).mono ?_
    rintro e w3 ⟨rfl, hb3⟩
    obtain ⟨W3, hW3, q3, hkeep3, hc3⟩ := filledS w3 #[.int .i64 0, .int .i64 0, .int .u8 0, .int .u8 0, .int .u8 0, .int .u8 0, .int .u8 0, .int .u8 0, .int .u8 0, .int .u8 0, .int .u8 0, .int .u8 0, .int .u8 0, .int .u8 0, .int .u8 0, .int .u8 0, .int .u8 0, .int .u8 0, .int .u8 0, .int .u8 0, .int .u8 0, .int .u8 0, .int .u8 0, .int .u8 0, .int .u8 0, .int .u8 0, .int .u8 0, .int .u8 0, .int .u8 0, .int .u8 0, .int .u8 0, .int .u8 0, .int .u8 0, .int .u8 0, .int .u8 0, .int .u8 0, .int .u8 0, .int .u8 0, .int .u8 0, .int .u8 0, .int .u8 0, .int .u8 0, .int .u8 0, .int .u8 0, .int .u8 0, .int .u8 0, .int .u8 0, .int .u8 0, .int .u8 0, .int .u8 0, .int .u8 0, .int .u8 0, .int .u8 0, .int .u8 0, .int .u8 0, .int .u8 0, .int .u8 0, .int .u8 0, .int .u8 0, .int .u8 0, .int .u8 0, .int .u8 0, .int .u8 0, .int .u8 0, .int .u8 0, .int .u8 0] oc
    have RN3 := Lib.hid (Row.new w3 #[.int .i64 0, .int .i64 0, .int .u8 0, .int .u8 0, .int .u8 0, .int .u8 0, .int .u8 0, .int .u8 0, .int .u8 0, .int .u8 0, .int .u8 0, .int .u8 0, .int .u8 0, .int .u8 0, .int .u8 0, .int .u8 0, .int .u8 0, .int .u8 0, .int .u8 0, .int .u8 0, .int .u8 0, .int .u8 0, .int .u8 0, .int .u8 0, .int .u8 0, .int .u8 0, .int .u8 0, .int .u8 0, .int .u8 0, .int .u8 0, .int .u8 0, .int .u8 0, .int .u8 0, .int .u8 0, .int .u8 0, .int .u8 0, .int .u8 0, .int .u8 0, .int .u8 0, .int .u8 0, .int .u8 0, .int .u8 0, .int .u8 0, .int .u8 0, .int .u8 0, .int .u8 0, .int .u8 0, .int .u8 0, .int .u8 0, .int .u8 0, .int .u8 0, .int .u8 0, .int .u8 0, .int .u8 0, .int .u8 0, .int .u8 0, .int .u8 0, .int .u8 0, .int .u8 0, .int .u8 0, .int .u8 0, .int .u8 0, .int .u8 0, .int .u8 0, .int .u8 0, .int .u8 0] 27)
    have HW3 := Lib.hid hW3
    have Q23 := Lib.hid (hkeep3 _ _ _ (Q2.out.belowS hb3))
    have M3 := Lib.hid ((M2.out.call hb3).call hc3)
    have Q3 := Lib.hid q3
    clear hb3 hW3 q3 hkeep3 hc3
    have heq := HEQ.out
    go_wp2_with (first
      | (refine RN3.out.store (m := oc) rfl 27 (.tmp 5) (.tmp 20) rfl rfl rfl HOI.out (by rw [HOL.out]; rfl) HOO.out ?_)
      | (rw [HW3.out]; fail_if_success (rw [HW3.out]))
      | (refine Q23.out.sload rfl (.tmp 3) rfl rfl HOI.out ?_)
      | (refine Q3.out.sload rfl (.tmp 5) rfl rfl HOI.out ?_))
    go_ret
    exact ⟨rfl, by rw [HA.out]; exact M3.out.bel⟩
  · have d1 : decide (200 < n) = true := by simp; omega
    have d2 : decide ((200 : Int) < (n : Int)) = true := by simp; omega
    go_wp2
    go_ret
    exact ⟨rfl, by rw [HA.out]; exact M1.out.bel⟩

theorem gb_byI (n : Int) : (byI n).toNat = (n % 256).toNat := by
  have := byI_nat n
  omega
theorem numL_bs4 (n : Int) (h0 : 0 ≤ n) (h1 : n < 4294967296) (r : List UInt8) (k : Nat) (l : List UInt8) (hl : l.drop k = bs4 n ++ r) : (numL l k : Int) = n := by
  have e : numL l k = numL (l.drop k) 0 := (numL_drop l k).symm
  rw [e, hl]
  have g0 : gb (bs4 n ++ r) 0 = (byI (n / 16777216)).toNat := rfl
  have g1 : gb (bs4 n ++ r) 1 = (byI (n / 65536)).toNat := rfl
  have g2 : gb (bs4 n ++ r) 2 = (byI (n / 256)).toNat := rfl
  have g3 : gb (bs4 n ++ r) 3 = (byI n).toNat := rfl
  unfold numL
  simp only [nP, Nat.zero_add, g0, g1, g2, g3, gb_byI]
  omega
theorem sealB_back (s c : Int) (r p : List UInt8) (hr : r.length = 32) (hp : p.length = 32) (h1 : 1 ≤ s) (h2 : s ≤ 999999) (h3 : 0 ≤ c) (h4 : c < 4294967296) :
    parE (sealB s c r p) = 0 ∧ parC (sealB s c r p) = sealC s c r p := by
  have n0 : (numL (sealB s c r p) 0 : Int) = s := numL_bs4 s (by omega) (by omega) (bs4 c ++ r ++ p) 0 _ (by simp [sealB])
  have n4 : (numL (sealB s c r p) 4 : Int) = c := numL_bs4 c h3 h4 (r ++ p) 4 _ (by
    unfold sealB
    rw [List.append_assoc, List.append_assoc, List.drop_left' (by rfl)])
  have hl : (sealB s c r p).length = 72 := by simp [sealB, bs4, hr, hp]
  have hok : parOk (sealB s c r p) = true := by
    unfold parOk
    simp only [decide_eq_true_eq]
    exact ⟨hl, by omega, by omega⟩
  have e8 : ((sealB s c r p).drop 8).take 32 = r := by
    unfold sealB
    rw [List.append_assoc, List.drop_left' (by simp [bs4]), List.take_left' hr]
  have e40 : (sealB s c r p).drop 40 = p := by
    unfold sealB
    rw [List.drop_left' (by simp [bs4, hr])]
  refine ⟨by unfold parE; rw [hok, if_pos rfl], ?_⟩
  unfold parC
  rw [hok, if_pos rfl, e8, e40, n0, n4]
set_option maxHeartbeats 2000000 in
set_option maxRecDepth 100000 in
theorem sealBack_walk (v : Value) (x : Sl) (w : World) (hv : v = .agg x.cells.toArray ∧ x.ok ∧ in64 x.s ∧ in64 x.c) :
    Calls Try.prog 9 #[v] w fun e w' => e = .returned (.bool true) ∧ Below w.heap.size w w' := by
  obtain ⟨s, c, r, p⟩ := x
  obtain ⟨rfl, ⟨hr, hp⟩, hs64, hc64⟩ := hv
  simp only at hr hp hs64 hc64
  unfold Sl.cells
  have h1 := fun w => bytes_any s c r p hr hp w
  obtain ⟨hol, hoo, heq⟩ := parC_facts (sealB s c r p)
  have h2 := fun (u : Value) w (hu : SB w u (sealB s c r p)) => sparse_any u _ w hu
  have hback := sealB_back s c r p hr hp
  obtain ⟨sc, hsc, hl66, hsi, hso, r0, m0, hat⟩ := seal_box w s c r p hr hp
  have hk0 : ∀ W, Row W w.heap.size 27 sc → W.cell? ⟨w.heap.size, 0, none⟩ = some (.int .i64 s) ∧ W.cell? ⟨w.heap.size, 1, none⟩ = some (.int .i64 c) := fun W h => by
    rw [h.cell 0, h.cell 1, ← hsc]; exact ⟨rfl, rfl⟩
  have hoi := info66 _ hol
  have hoo := all_oneCell_toArray hoo
  obtain ⟨A, hA⟩ : ∃ A, w.heap.size = A := ⟨_, rfl⟩
  obtain ⟨L, hL⟩ : ∃ L, sealB s c r p = L := ⟨_, rfl⟩
  rw [hL] at hol hoo heq hoi hback
  simp only [hsc] at h1 hback ⊢
  simp only [hL] at h1 h2
  obtain ⟨oc, hoc⟩ : ∃ oc, parC L = oc := ⟨_, rfl⟩
  obtain ⟨oe, hoe⟩ : ∃ oe, parE L = oe := ⟨_, rfl⟩
  simp only [hoc, hoe] at hol hoo heq hoi hback h2
  simp only [hA] at r0 m0 hk0
  have H1 := Lib.hid h1
  have H2 := Lib.hid h2
  have R0 := Lib.hid r0
  have M0 := Lib.hid m0
  have HSI := Lib.hid hsi
  have HOL := Lib.hid hol
  have HOO := Lib.hid hoo
  have HOI := Lib.hid hoi
  have HEQ := Lib.hid heq
  have HK := Lib.hid hk0
  have HB := Lib.hid hback
  have HA := Lib.hid hA
  clear h1 h2 r0 m0 hsi hol hoo hoi heq hk0 hback hsc hL hoc hoe hat hl66 hso hr hp
  have kz := zeroSeal
  go_enter Try.func9, Try.ntmps9
  go_wp2_with fail
  refine (awake06_any _).mono ?_
  rintro e w1 ⟨rfl, hb1⟩
  have R1 := Lib.hid (R0.out.belowS hb1)
  have M1 := Lib.hid (M0.out.call hb1)
  clear hb1
  go_wp2_with (first | (refine R1.out.sload rfl (.tmp 1) rfl rfl HSI.out ?_))
  refine (H1.out _).mono ?_
  rintro e w2 ⟨u, rfl, ho, hb2⟩
  have R2 := Lib.hid (R1.out.belowS hb2)
  have M2 := Lib.hid (M1.out.call hb2)
  have hsb := ho.reads
  clear hb2 ho
  go_wp2_with fail
  refine (H2.out _ _ hsb).mono ?_
  rintro e w3 ⟨rfl, hb3⟩
  obtain ⟨W3, hW3, q3, hkeep3, hc3⟩ := filledS w3 #[.int .i64 0, .int .i64 0, .int .u8 0, .int .u8 0, .int .u8 0, .int .u8 0, .int .u8 0, .int .u8 0, .int .u8 0, .int .u8 0, .int .u8 0, .int .u8 0, .int .u8 0, .int .u8 0, .int .u8 0, .int .u8 0, .int .u8 0, .int .u8 0, .int .u8 0, .int .u8 0, .int .u8 0, .int .u8 0, .int .u8 0, .int .u8 0, .int .u8 0, .int .u8 0, .int .u8 0, .int .u8 0, .int .u8 0, .int .u8 0, .int .u8 0, .int .u8 0, .int .u8 0, .int .u8 0, .int .u8 0, .int .u8 0, .int .u8 0, .int .u8 0, .int .u8 0, .int .u8 0, .int .u8 0, .int .u8 0, .int .u8 0, .int .u8 0, .int .u8 0, .int .u8 0, .int .u8 0, .int .u8 0, .int .u8 0, .int .u8 0, .int .u8 0, .int .u8 0, .int .u8 0, .int .u8 0, .int .u8 0, .int .u8 0, .int .u8 0, .int .u8 0, .int .u8 0, .int .u8 0, .int .u8 0, .int .u8 0, .int .u8 0, .int .u8 0, .int .u8 0, .int .u8 0] oc
  have RN3 := Lib.hid (Row.new w3 #[.int .i64 0, .int .i64 0, .int .u8 0, .int .u8 0, .int .u8 0, .int .u8 0, .int .u8 0, .int .u8 0, .int .u8 0, .int .u8 0, .int .u8 0, .int .u8 0, .int .u8 0, .int .u8 0, .int .u8 0, .int .u8 0, .int .u8 0, .int .u8 0, .int .u8 0, .int .u8 0, .int .u8 0, .int .u8 0, .int .u8 0, .int .u8 0, .int .u8 0, .int .u8 0, .int .u8 0, .int .u8 0, .int .u8 0, .int .u8 0, .int .u8 0, .int .u8 0, .int .u8 0, .int .u8 0, .int .u8 0, .int .u8 0, .int .u8 0, .int .u8 0, .int .u8 0, .int .u8 0, .int .u8 0, .int .u8 0, .int .u8 0, .int .u8 0, .int .u8 0, .int .u8 0, .int .u8 0, .int .u8 0, .int .u8 0, .int .u8 0, .int .u8 0, .int .u8 0, .int .u8 0, .int .u8 0, .int .u8 0, .int .u8 0, .int .u8 0, .int .u8 0, .int .u8 0, .int .u8 0, .int .u8 0, .int .u8 0, .int .u8 0, .int .u8 0, .int .u8 0, .int .u8 0] 27)
  have HW3 := Lib.hid hW3
  have r3 := hkeep3 _ _ _ (R2.out.belowS hb3)
  have hc := HK.out _ r3
  have k0 := hc.1
  have k1 := hc.2
  have R3 := Lib.hid r3
  have M3 := Lib.hid ((M2.out.call hb3).call hc3)
  have Q3 := Lib.hid q3
  clear hb3 hW3 q3 hkeep3 hc3 r3 hc hsb
  obtain ⟨a1, a2⟩ := hs64
  obtain ⟨a3, a4⟩ := hc64
  by_cases b1 : s < 1
  · have d1 : decide (s < 1) = true := by simpa using b1
    go_wp2_with (first
      | (refine RN3.out.store (m := oc) rfl 27 (.tmp 3) (.tmp 11) rfl rfl rfl HOI.out (by rw [HOL.out]; rfl) HOO.out ?_)
      | (rw [HW3.out]; fail_if_success (rw [HW3.out])))
    go_ret
    exact ⟨rfl, by rw [HA.out]; exact M3.out.bel⟩
  have d1 : decide (s < 1) = false := by simpa using b1
  by_cases b2 : 999999 < s
  · have d2 : decide (999999 < s) = true := by simpa using b2
    go_wp2_with (first
      | (refine RN3.out.store (m := oc) rfl 27 (.tmp 3) (.tmp 11) rfl rfl rfl HOI.out (by rw [HOL.out]; rfl) HOO.out ?_)
      | (rw [HW3.out]; fail_if_success (rw [HW3.out])))
    go_ret
    exact ⟨rfl, by rw [HA.out]; exact M3.out.bel⟩
  have d2 : decide (999999 < s) = false := by simpa using b2
  by_cases b3 : c < 0
  · have d3 : decide (c < 0) = true := by simpa using b3
    go_wp2_with (first
      | (refine RN3.out.store (m := oc) rfl 27 (.tmp 3) (.tmp 11) rfl rfl rfl HOI.out (by rw [HOL.out]; rfl) HOO.out ?_)
      | (rw [HW3.out]; fail_if_success (rw [HW3.out])))
    go_ret
    exact ⟨rfl, by rw [HA.out]; exact M3.out.bel⟩
  have d3 : decide (c < 0) = false := by simpa using b3
  by_cases b4 : 4294967296 ≤ c
  · have d4 : decide (4294967296 ≤ c) = true := by simpa using b4
    go_wp2_with (first
      | (refine RN3.out.store (m := oc) rfl 27 (.tmp 3) (.tmp 11) rfl rfl rfl HOI.out (by rw [HOL.out]; rfl) HOO.out ?_)
      | (rw [HW3.out]; fail_if_success (rw [HW3.out])))
    go_ret
    exact ⟨rfl, by rw [HA.out]; exact M3.out.bel⟩
  have d4 : decide (4294967296 ≤ c) = false := by simpa using b4
  obtain ⟨hoe0, hocs⟩ := HB.out (by omega) (by omega) (by omega) (by omega)
  subst hoe0
  subst hocs
  have heq := HEQ.out
  go_wp2_with (first
    | (refine RN3.out.store (m := oc) rfl 27 (.tmp 3) (.tmp 11) rfl rfl rfl HOI.out (by rw [HOL.out]; rfl) HOO.out ?_)
    | (rw [HW3.out]; fail_if_success (rw [HW3.out]))
    | (refine Q3.out.sload rfl (.tmp 3) rfl rfl HOI.out ?_)
    | (refine R3.out.sload rfl (.tmp 1) rfl rfl HOI.out ?_))
  go_ret
  exact ⟨rfl, by rw [HA.out]; exact M3.out.bel⟩
end Go.Proofs.Ytnepmhdnkcnnmaa

/- HoldMore. -/
import Derived.RangeFuncNested
import Derived.RangeFuncBound
import Derived.RangeFuncCalls
import Derived.RangeFuncLeaves
import Derived.Shelf.Abstract
import Derived.Shelf.RegionOpen
import Derived.WalkKit
import Derived.OwnWalkIn
import Derived.TacticsInMore
import Derived.LoopNIn
import Derived.LoopIn
import Derived.Outline
import Derived.Lib.Hide
import Derived.Lib.SliceRun
import Derived.IntWalk
import Derived.WalkLawsBesides
import Derived.WalkSpells
import Derived.Laws.BitsAllLaws
import Derived.Lib.ConvBytes
import Derived.Maps.AppendAt
import Derived.Lib.AppendStr
import Derived.Lib.SlBytesConst
import Derived.Laws.AppendOwnNone
import Derived.Laws.OwnMore
import Derived.Laws.BytesArg
import Derived.Deep.RegionHeld3
import Derived.BigQuiet
import Derived.Deep.RegionLaw
import Derived.Deep.QuietTactic
import Derived.Lib.OthersKept
import Derived.Test.YtofdfcngmkkfdaaProg
import Derived.Deep.DeepFit
import Derived.Test.YtofdfcngmkkfdaaHoQ
import Derived.Test.YtofdfcngmkkfdaaHoM
set_option linter.unusedVariables false
set_option linter.unusedSimpArgs false
namespace Go.Proofs.Ytofdfcngmkkfdaa
open Go Go.RowKit Go.Shelf

theorem fstG_snoc {α : Type} (p : α → Bool) (x : α) : ∀ (l : List α) (k : Nat), fstG p l k < 0 → p x = true → fstG p (l ++ [x]) k = ((k + l.length : Nat) : Int)
  | [], k, _, hx => by rw [List.nil_append, fstG, if_pos hx]; rfl
  | y :: l, k, h, hx => by
    by_cases hy : p y = true
    · rw [fstG, if_pos hy] at h; omega
    · rw [fstG, if_neg hy] at h
      rw [List.cons_append, fstG, if_neg hy, fstG_snoc p x l (k + 1) h hx]
      congr 1
      simp; omega
theorem lift_placed {hs : List Ru} {x : Ru} (h : plE hs x = 0) : plL hs x = hs ++ [x] ∧ lfE (hs ++ [x]) x.1 = 0 ∧ lfL (hs ++ [x]) x.1 = hs := by
  have h1 : plL hs x = hs ++ [x] := by unfold plL; rw [if_pos h]
  have hq : fI hs x.1 < 0 := by
    unfold plE at h
    split at h
    · split at h
      · omega
      · omega
    · omega
  have hs' : fI (hs ++ [x]) x.1 = (hs.length : Int) := by
    have := fstG_snoc (fun h : Ru => h.1.toList == x.1.toList) x hs 0 hq (by simp)
    rw [Nat.zero_add] at this
    exact this
  refine ⟨h1, ?_, ?_⟩
  · unfold lfE; rw [hs', if_neg (by omega)]
  · unfold lfL
    rw [hs', if_neg (by omega), Int.toNat_natCast, List.take_left, List.drop_eq_nil_of_le (by simp), List.append_nil]
theorem any_lift {hs : List Ru} {s : ByteArray} (p : Ru → Bool) (h : hs.any p = false) : (lfL hs s).any p = false := by
  unfold lfL
  split
  · rfl
  · rw [List.any_eq_false] at h ⊢
    intro x hx
    rcases List.mem_append.1 hx with hx | hx
    · exact h x (List.mem_of_mem_take hx)
    · exact h x (List.mem_of_mem_drop hx)
theorem lfL_mem {hs : List Ru} {s : ByteArray} {x : Ru} (hx : x ∈ lfL hs s) : x ∈ hs := by
  unfold lfL at hx
  split at hx
  · cases hx
  · rcases List.mem_append.1 hx with hx | hx
    · exact List.mem_of_mem_take hx
    · exact List.mem_of_mem_drop hx
theorem lfL_len (hs : List Ru) (s : ByteArray) : (lfL hs s).length ≤ hs.length := by
  unfold lfL
  split
  · simp
  · simp; omega
set_option maxRecDepth 100000 in
set_option maxHeartbeats 8000000 in
/-- what comes behind the first half -/
theorem holdMore_tail (hs : List Ru) (name : ByteArray) (fr : ByteArray) (to : List ByteArray) (q1 : Bool) (hq1 : hs.any (covB fr to) = q1) : (lfE hs name = 0 → q1 = false → (lfL hs name).any (covB fr to) = false) := by
  intro _ h
  subst h
  exact any_lift _ hq1
set_option maxRecDepth 100000 in
set_option maxHeartbeats 8000000 in
/-- **HoldMore** -/
theorem holdMore_walk (v : Value) (hs : List Ru) (hv' : Value) (x : Ru) (name : ByteArray) (ev : Value) (y : Ev) (w : World) (hv : PV w v (ruV hs) ∧ ∀ c ∈ hs, c.1.size ≤ maxLen ∧ c.2.size ≤ maxLen)
    (hx : hv' = .agg #[.string x.1, .string x.2] ∧ x.1.size ≤ maxLen ∧ x.2.size ≤ maxLen) (hname : name.size ≤ maxLen)
    (hy : ev = .agg #[.string y.1, y.2.2.1, .int .i64 y.2.2.2] ∧ TV w y.2.2.1 y.2.1 ∧ y.1.size ≤ maxLen ∧ ∀ s ∈ y.2.1, s.size ≤ maxLen) :
    Calls Try.prog 16 #[v, hv', .string name, ev] w fun e w' => e = .returned (.bool true) ∧ Below w.heap.size w w' := by
  obtain ⟨hv, hsz⟩ := hv
  obtain ⟨nm, who⟩ := x
  obtain ⟨rfl, hx1, hx2⟩ := hx
  obtain ⟨fr, to, tv, at_⟩ := y
  obtain ⟨rfl, hT, hy1, hy2⟩ := hy
  dsimp only at hx1 hx2 hT hy1 hy2
  dsimp only
  have hv0 := hv
  have hT0 := hT
  obtain ⟨A, c, rfl, hc1, -⟩ := hv
  obtain ⟨At, ct, rfl, hct, -⟩ := hT
  rw [ruV_len] at hv0 hc1 ⊢
  rw [List.length_map] at hT0 hct ⊢
  obtain ⟨n, hn⟩ : ∃ n, hs.length = n := ⟨_, rfl⟩
  obtain ⟨m, hm⟩ : ∃ m, to.length = m := ⟨_, rfl⟩
  rw [hn] at hv0 hc1 ⊢
  rw [hm] at hT0 hct ⊢
  obtain ⟨B, hB⟩ : ∃ B, w.heap.size = B := ⟨_, rfl⟩
  have m0 : Mine B w ((w.alloc (.cells #[.string nm, .string who] 47)).alloc (.cells #[.string fr, .slice At m ct, .int .i64 at_] 33)) := by rw [← hB]; exact ((Mine.refl w).alloc _).alloc _
  have r0 : Row ((w.alloc (.cells #[.string nm, .string who] 47)).alloc (.cells #[.string fr, .slice At m ct, .int .i64 at_] 33)) B 47 [.string nm, .string who] := by rw [← hB]; exact (Row.new w _ _).alloc _
  have s0 : Row ((w.alloc (.cells #[.string nm, .string who] 47)).alloc (.cells #[.string fr, .slice At m ct, .int .i64 at_] 33)) (B + 1) 33 [.string fr, .slice At m ct, .int .i64 at_] := by
    have := Row.new (w.alloc (.cells #[.string nm, .string who] 47)) #[.string fr, .slice At m ct, .int .i64 at_] 33
    rw [alloc_size, hB] at this
    exact this
  have hgv : ∀ wr, Mine B w wr → PV wr (.slice A n c) (ruV hs) := fun wr h => hv0.below (hB ▸ h.bel)
  have hgt : ∀ wr, Mine B w wr → TV wr (.slice At m ct) to := fun wr h => hT0.below (hB ▸ h.bel)
  have hfw := fun w => few14_any A At n m c ct fr at_ w
  obtain ⟨b, hb⟩ : ∃ b, few14B n m = b := ⟨_, rfl⟩
  simp only [hb] at hfw
  have HFW := Lib.hid hfw
  have HB := Lib.hid hb
  have M0 := Lib.hid m0
  have R0 := Lib.hid r0
  have S0 := Lib.hid s0
  have HV := Lib.hid hgv
  have HT := Lib.hid hgt
  have HN := Lib.hid hn
  have HSZ := Lib.hid hsz
  clear hfw hb m0 r0 s0 hgv hgt hn hv0 hT0 hsz hm
  go_enter Try.func16, Try.ntmps16
  go_wp2_with fail
  refine (awake14_any _).mono ?_
  rintro e w1 ⟨rfl, hb1⟩
  have M1 := Lib.hid (M0.out.call hb1)
  have R1 := Lib.hid (R0.out.belowS hb1)
  have S1 := Lib.hid (S0.out.belowS hb1)
  clear hb1 M0 R0 S0
  have c0 := S1.out.cell0
  have c1 := S1.out.cell1
  have c2 := S1.out.cell2
  try rw [hB]
  go_wp2_with fail
  refine (HFW.out _).mono ?_
  rintro e w2 ⟨rfl, hb2⟩
  have M2 := Lib.hid (M1.out.call hb2)
  have R2 := Lib.hid (R1.out.belowS hb2)
  have S2 := Lib.hid (S1.out.belowS hb2)
  clear hb2 M1 R1 S1 c0 c1 c2
  cases b with
  | false =>
    go_wp2
    go_ret
    exact ⟨rfl, by first | exact M2.out.bel | (rw [hB]; exact M2.out.bel)⟩
  | true =>
    have hl : hs.length ≤ 101 := by
      have := HB.out
      unfold few14B at this
      simp at this
      have h2 := HN.out
      omega
    have HCV := Lib.hid (fun W h => covers_any (.slice A n c) hs fr to (.slice At m ct) at_ hy1 hy2 HSZ.out W (HV.out W h) (HT.out W h))
    have HLF := Lib.hid (fun W h => lift_any (.slice A n c) hs name W (by omega) (HV.out W h))
    have HLC : Hid (∀ u W, Mine B w W → PV W u (ruV (lfL hs name)) → Calls Try.prog 43 #[u, .agg #[.string fr, .slice At m ct, .int .i64 at_]] W fun e w' => e = .returned (.bool ((lfL hs name).any (covB fr to))) ∧ Below W.heap.size W w') :=
      fun u W hm hu => covers_any u (lfL hs name) fr to (.slice At m ct) at_ hy1 hy2 (fun c hc => HSZ.out c (lfL_mem hc)) W hu (HT.out W hm)
    have HQ3 := Lib.hid (fun q1 (hq1 : hs.any (covB fr to) = q1) => holdMore_tail hs name fr to q1 hq1)
    have HPL := Lib.hid (fun W h => place_any (.slice A n c) hs nm who W (by omega) hx2 (HV.out W h))
    have HPC : Hid (plE hs (nm, who) = 0 → ∀ u W, Mine B w W → PV W u (ruV (plL hs (nm, who))) → Calls Try.prog 43 #[u, .agg #[.string fr, .slice At m ct, .int .i64 at_]] W fun e w' => e = .returned (.bool (hs.any (covB fr to) || covB fr to (nm, who))) ∧ Below W.heap.size W w') := fun h u W hm hu => by
      obtain ⟨e1, -, -⟩ := lift_placed h
      rw [e1] at hu
      have := covers_any u (hs ++ [(nm, who)]) fr to (.slice At m ct) at_ hy1 hy2 (fun c hc => by
        rcases List.mem_append.1 hc with hc | hc
        · exact HSZ.out c hc
        · simp at hc; subst hc; exact ⟨hx1, hx2⟩) W hu (HT.out W hm)
      rw [List.any_append] at this
      simp only [List.any_cons, List.any_nil, Bool.or_false] at this
      exact this
    have HPF : Hid (plE hs (nm, who) = 0 → ∀ u W, PV W u (ruV (plL hs (nm, who))) → Calls Try.prog 49 #[u, .string nm] W fun e w' => ∃ u', e = .returned (.tuple #[u', .int .i64 0]) ∧ OP w' W.heap.size u' hs ∧ Below W.heap.size W w') := fun h u W hu => by
      obtain ⟨e1, e2, e3⟩ := lift_placed h
      rw [e1] at hu
      have := lift_any u (hs ++ [(nm, who)]) nm W (by simp; omega) hu
      rw [e2, e3] at this
      exact this
    obtain ⟨q1, hq1⟩ : ∃ q, hs.any (covB fr to) = q := ⟨_, rfl⟩
    obtain ⟨qc, hqc⟩ : ∃ q, covB fr to (nm, who) = q := ⟨_, rfl⟩
    obtain ⟨q3, hq3⟩ : ∃ q, (lfL hs name).any (covB fr to) = q := ⟨_, rfl⟩
    have HQ4 := Lib.hid (HQ3.out q1 hq1)
    rw [hq3] at HQ4 HLC
    rw [hq1] at HPC HCV
    rw [hqc] at HPC
    obtain ⟨L2, hL2⟩ : ∃ L, lfL hs name = L := ⟨_, rfl⟩
    obtain ⟨z2, hz2⟩ : ∃ L, lfE hs name = L := ⟨_, rfl⟩
    rw [hL2] at HLC HLF
    rw [hz2] at HQ4 HLF
    obtain ⟨L1, hL1⟩ : ∃ L, plL hs (nm, who) = L := ⟨_, rfl⟩
    obtain ⟨z1, hz1⟩ : ∃ L, plE hs (nm, who) = L := ⟨_, rfl⟩
    rw [hL1] at HPL HPC HPF
    rw [hz1] at HPL HPC HPF
    have HL := Lib.hid hl
    clear HQ3 hq1 hqc hq3 hL2 hz2 hL1 hz1 hl HFW HB
    have c0 := R2.out.cell0
    have c1 := R2.out.cell1
    go_wp2_with fail
    refine (HPL.out _ M2.out).mono ?_
    rintro e w3 ⟨u1, rfl, hown1, hb3⟩
    have M3 := Lib.hid (M2.out.call hb3)
    have R3 := Lib.hid (R2.out.belowS hb3)
    have S3 := Lib.hid (S2.out.belowS hb3)
    have P1 := Lib.hid hown1.reads
    clear hown1 hb3 c0 c1 M2 R2 S2 HPL
    by_cases h1 : z1 = 0
    · have d1 : (z1 == 0) = true := by simp [h1]
      have c0 := R3.out.cell0
      go_wp2_with fail
      refine (HPF.out h1 u1 _ P1.out).mono ?_
      rintro e w4 ⟨u3, rfl, hown3, hb4⟩
      have M4 := Lib.hid (M3.out.call hb4)
      have S4 := Lib.hid (S3.out.belowS hb4)
      have P4 := Lib.hid (P1.out.below hb4)
      have Y4 := Lib.hid hown3.reads
      clear hown3 hb4 c0
      have c0 := S4.out.cell0
      have c1 := S4.out.cell1
      have c2 := S4.out.cell2
      go_wp2_with fail
      refine (HCV.out _ M4.out).mono ?_
      rintro e w5 ⟨rfl, hb5⟩
      have M5 := Lib.hid (M4.out.call hb5)
      have S5 := Lib.hid (S4.out.belowS hb5)
      have P5 := Lib.hid (P4.out.below hb5)
      have Y5 := Lib.hid (Y4.out.below hb5)
      clear hb5 c0 c1 c2
      cases q1 with
      | true =>
        have c0 := S5.out.cell0
        have c1 := S5.out.cell1
        have c2 := S5.out.cell2
        have hpc := HPC.out h1
        simp only [Bool.true_or] at hpc
        have HPC2 := Lib.hid hpc
        clear hpc
        go_wp2_with fail
        refine (HPC2.out u1 _ M5.out P5.out).mono ?_
        rintro e w5b ⟨rfl, hb5b⟩
        have M5b := Lib.hid (M5.out.call hb5b)
        have S5b := Lib.hid (S5.out.belowS hb5b)
        have Y5b := Lib.hid (Y5.out.below hb5b)
        clear hb5b c0 c1 c2
        go_wp2_with fail
        refine (rsame_any _ _ hs _ (by have := HL.out; omega) Y5b.out (HV.out _ M5b.out)).mono ?_
        rintro e w5c ⟨rfl, hb5c⟩
        have M5c := Lib.hid (M5b.out.call hb5c)
        have S5c := Lib.hid (S5b.out.belowS hb5c)
        clear hb5c
        go_wp2_with fail
        refine (HLF.out _ M5c.out).mono ?_
        rintro e w6 ⟨u2, rfl, hown2, hb6⟩
        have M6 := Lib.hid (M5c.out.call hb6)
        have S6 := Lib.hid (S5c.out.belowS hb6)
        have P6 := Lib.hid hown2.reads
        obtain ⟨Au, nu, cu, hu2⟩ : ∃ A n c, u2 = .slice A n c := by obtain ⟨a, b, e, -⟩ := P6.out; exact ⟨_, _, _, e⟩
        subst hu2
        clear hown2 hb6
        by_cases h2 : z2 = 0
        · have d2 : (z2 != 0) = false := by simp [h2]
          have c0 := S6.out.cell0
          have c1 := S6.out.cell1
          have c2 := S6.out.cell2
          go_wp2_with fail
          refine (HCV.out _ M6.out).mono ?_
          rintro e w7 ⟨rfl, hb7⟩
          have M7 := Lib.hid (M6.out.call hb7)
          go_wp2
          go_ret
          exact ⟨rfl, by first | exact M7.out.bel | (rw [hB]; exact M7.out.bel)⟩
        · have d2 : (z2 != 0) = true := by simp [h2]
          go_wp2
          go_ret
          exact ⟨rfl, by first | exact M6.out.bel | (rw [hB]; exact M6.out.bel)⟩
      | false =>
        go_wp2_with fail
        refine (rsame_any _ _ hs _ (by have := HL.out; omega) Y5.out (HV.out _ M5.out)).mono ?_
        rintro e w5c ⟨rfl, hb5c⟩
        have M5c := Lib.hid (M5.out.call hb5c)
        have S5c := Lib.hid (S5.out.belowS hb5c)
        clear hb5c
        go_wp2_with fail
        refine (HLF.out _ M5c.out).mono ?_
        rintro e w6 ⟨u2, rfl, hown2, hb6⟩
        have M6 := Lib.hid (M5c.out.call hb6)
        have S6 := Lib.hid (S5c.out.belowS hb6)
        have P6 := Lib.hid hown2.reads
        obtain ⟨Au, nu, cu, hu2⟩ : ∃ A n c, u2 = .slice A n c := by obtain ⟨a, b, e, -⟩ := P6.out; exact ⟨_, _, _, e⟩
        subst hu2
        clear hown2 hb6
        by_cases h2 : z2 = 0
        · have d2 : (z2 != 0) = false := by simp [h2]
          have h3 : q3 = false := HQ4.out h2 (by first | rfl | trivial)
          subst h3
          have c0 := S6.out.cell0
          have c1 := S6.out.cell1
          have c2 := S6.out.cell2
          go_wp2_with fail
          refine (HCV.out _ M6.out).mono ?_
          rintro e w7 ⟨rfl, hb7⟩
          have M7 := Lib.hid (M6.out.call hb7)
          have S7 := Lib.hid (S6.out.belowS hb7)
          have P7 := Lib.hid (P6.out.below hb7)
          clear hb7 c0 c1 c2
          have c0 := S7.out.cell0
          have c1 := S7.out.cell1
          have c2 := S7.out.cell2
          go_wp2_with fail
          refine (HLC.out _ _ M7.out P7.out).mono ?_
          rintro e w8 ⟨rfl, hb8⟩
          have M8 := Lib.hid (M7.out.call hb8)
          go_wp2
          go_ret
          exact ⟨rfl, by first | exact M8.out.bel | (rw [hB]; exact M8.out.bel)⟩
        · have d2 : (z2 != 0) = true := by simp [h2]
          go_wp2
          go_ret
          exact ⟨rfl, by first | exact M6.out.bel | (rw [hB]; exact M6.out.bel)⟩
    · have d1 : (z1 == 0) = false := by simp [h1]
      go_wp2_with fail
      refine (HLF.out _ M3.out).mono ?_
      rintro e w6 ⟨u2, rfl, hown2, hb6⟩
      have M6 := Lib.hid (M3.out.call hb6)
      have S6 := Lib.hid (S3.out.belowS hb6)
      have P6 := Lib.hid hown2.reads
      obtain ⟨Au, nu, cu, hu2⟩ : ∃ A n c, u2 = .slice A n c := by obtain ⟨a, b, e, -⟩ := P6.out; exact ⟨_, _, _, e⟩
      subst hu2
      clear hown2 hb6
      by_cases h2 : z2 = 0
      · have d2 : (z2 != 0) = false := by simp [h2]
        cases q1 with
        | true =>
          have c0 := S6.out.cell0
          have c1 := S6.out.cell1
          have c2 := S6.out.cell2
          go_wp2_with fail
          refine (HCV.out _ M6.out).mono ?_
          rintro e w7 ⟨rfl, hb7⟩
          have M7 := Lib.hid (M6.out.call hb7)
          go_wp2
          go_ret
          exact ⟨rfl, by first | exact M7.out.bel | (rw [hB]; exact M7.out.bel)⟩
        | false =>
          have h3 : q3 = false := HQ4.out h2 (by first | rfl | trivial)
          subst h3
          have c0 := S6.out.cell0
          have c1 := S6.out.cell1
          have c2 := S6.out.cell2
          go_wp2_with fail
          refine (HCV.out _ M6.out).mono ?_
          rintro e w7 ⟨rfl, hb7⟩
          have M7 := Lib.hid (M6.out.call hb7)
          have S7 := Lib.hid (S6.out.belowS hb7)
          have P7 := Lib.hid (P6.out.below hb7)
          clear hb7 c0 c1 c2
          have c0 := S7.out.cell0
          have c1 := S7.out.cell1
          have c2 := S7.out.cell2
          go_wp2_with fail
          refine (HLC.out _ _ M7.out P7.out).mono ?_
          rintro e w8 ⟨rfl, hb8⟩
          have M8 := Lib.hid (M7.out.call hb8)
          go_wp2
          go_ret
          exact ⟨rfl, by first | exact M8.out.bel | (rw [hB]; exact M8.out.bel)⟩
      · have d2 : (z2 != 0) = true := by simp [h2]
        go_wp2
        go_ret
        exact ⟨rfl, by first | exact M6.out.bel | (rw [hB]; exact M6.out.bel)⟩
end Go.Proofs.Ytofdfcngmkkfdaa

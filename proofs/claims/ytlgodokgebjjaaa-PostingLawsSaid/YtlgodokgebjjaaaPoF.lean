/- kept, Both. -/
import Derived.RangeFuncNested
import Derived.RangeFuncBound
import Derived.RangeFuncCalls
import Derived.RangeFuncLeaves
import Derived.Shelf.Abstract
import Derived.Shelf.RegionOpen
import Derived.WalkKit
import Derived.OwnWalkIn
import Derived.TacticsInMore
import Derived.LoopNIn
import Derived.LoopIn
import Derived.Outline
import Derived.Lib.Hide
import Derived.Lib.SliceRun
import Derived.IntWalk
import Derived.WalkLawsBesides
import Derived.WalkSpells
import Derived.Laws.BitsAllLaws
import Derived.Lib.ConvBytes
import Derived.Maps.AppendAt
import Derived.Lib.AppendStr
import Derived.Lib.SlBytesConst
import Derived.Laws.AppendOwnNone
import Derived.Laws.OwnMore
import Derived.Laws.BytesArg
import Derived.Deep.RegionHeld3
import Derived.BigQuiet
import Derived.Deep.RegionLaw
import Derived.Deep.QuietTactic
import Derived.Lib.OthersKept
import Derived.Test.YtlgodokgebjjaaaProg
import Derived.Deep.DeepFit
import Derived.Test.YtlgodokgebjjaaaPoE
set_option linter.unusedVariables false
set_option linter.unusedSimpArgs false
namespace Go.Proofs.Ytlgodokgebjjaaa
open Go Go.RowKit Go.Shelf

set_option maxRecDepth 100000 in
set_option maxHeartbeats 4000000 in
/-- **posting.kept** -/
theorem kept_any (va vb : Value) (a b : List Int) (hs : Bool) (w : World) (ha : NS w va a) (hb : NS w vb b) (hla : a.length ≤ 100000) (hlb : b.length ≤ 100000) :
    Calls Try.prog 64 #[va, vb, .bool hs] w fun e w' => ∃ u, e = .returned u ∧ ON w' w.heap.size u (both a b hs) ∧ Below w.heap.size w w' := by
  obtain ⟨B, hB⟩ : ∃ B, w.heap.size = B := ⟨_, rfl⟩
  have HA : Hid (∀ w', Below B w w' → NS w' va a) := fun w' h => ha.below (hB ▸ h)
  have HVB : Hid (∀ w', Below B w w' → NS w' vb b) := fun w' h => hb.below (hB ▸ h)
  have HB0 := Lib.hid hB
  have HLA := Lib.hid hla
  have HLB := Lib.hid hlb
  have H1 := Lib.hid (clean_any vb b w hb (by omega))
  rw [hB] at H1 ⊢
  clear ha hb hB hla hlb
  go_enter Try.func64, Try.ntmps64
  go_wp2_with fail
  refine H1.out.mono ?_
  rintro e w1 ⟨u1, rfl, hu1, hb1⟩
  have hn1 : B ≤ w1.heap.size := by rw [← HB0.out]; exact hb1.size
  have HB1 := Lib.hid hb1
  have HU1 : Hid (∀ w', Below w1.heap.size w1 w' → NS w' u1 (srtI b)) := fun w' h => hu1.below h
  have H2 := Lib.hid (clean_any va a w1 (HA.out w1 hb1) (by have := HLA.out; omega))
  clear hu1 hb1
  go_wp2_with fail
  refine H2.out.mono ?_
  rintro e w2 ⟨u2, rfl, hu2, hb2⟩
  have hn12 : w1.heap.size ≤ w2.heap.size := hb2.size
  have hn2 : B ≤ w2.heap.size := Nat.le_trans hn1 hn12
  have HB2 := Lib.hid (HB1.out.trans (hb2.mono hn1))
  have HU2 : Hid (∀ w', Below w2.heap.size w2 w' → NS w' u1 (srtI b)) := fun w' h => HU1.out w' (hb2.trans (h.mono hn12))
  clear hb2 hn12
  obtain ⟨A, c, rfl, hc, -⟩ := id hu2
  obtain ⟨sl, hsl⟩ : ∃ sl, srtI a = sl := ⟨_, rfl⟩
  rw [hsl] at hu2 hc ⊢
  obtain ⟨n, hn⟩ : ∃ n, sl.length = n := ⟨_, rfl⟩
  have hnl : n ≤ 100000 := by rw [← hn, ← hsl]; exact Nat.le_trans (srtI_len a) HLA.out
  rw [hn] at hu2 hc ⊢
  obtain ⟨C, hC⟩ : ∃ C, w2.heap.size = C := ⟨_, rfl⟩
  have hU := fun wr (h : Below C w2 wr) => (NS.below hu2 (hC ▸ h) : NS wr (.slice A n c) sl)
  have hBC : B ≤ C := by rw [← hC]; exact hn2
  have HU := Lib.hid hU
  have HBC := Lib.hid hBC
  have HSL := Lib.hid hsl
  have HN := Lib.hid hn
  have hasF : ∀ wr, Below C w2 wr → ∀ s, Calls Try.prog 29 #[u1, .int .i64 s] wr fun e w' => e = .returned (.bool (decide (s ∈ b))) ∧ Below wr.heap.size wr w' := by
    intro wr h s
    have := has_any u1 (srtI b) s wr (HU2.out wr (hC ▸ h)) (by have := srtI_len b; have := HLB.out; omega)
    have e : decide (s ∈ srtI b) = decide (s ∈ b) := decide_eq_decide.2 (mem_srtI b s)
    rw [e] at this
    exact this
  have HASF := Lib.hid hasF
  clear hasF
  clear hU hu2 hsl hn
  go_wp2
  go_loopw [15, 7] (fun i x wr => ∃ (k : Nat) (o : List Int), (i = .int .i64 (k : Int) ∧ k ≤ n) ∧ Hid (o = (sl.take k).filter fun y => decide (y ∈ b) == hs) ∧ ON wr C x o ∧ o.length ≤ k ∧ Mine C w2 wr) (fun i _ _ => n - (intOf i).toNat)
  case atStart => exact ⟨0, [], ⟨rfl, Nat.zero_le _⟩, by show _ = _; simp, ON.nil _ _, Nat.zero_le _, by rw [← hC]; exact Mine.refl w2⟩
  case round =>
    obtain ⟨k, o, ⟨rfl, hk⟩, hoe, hown, hok, hmi⟩ := hrel
    by_cases hlt : k < n
    · have hkl : k < sl.length := by rw [HN.out]; exact hlt
      obtain ⟨g, o1, rfl, hg⟩ := (HU.out wr hmi.bel).at_ HN.out.symm k hkl
      have c1 := hg k hkl
      have hcall := HASF.out wr hmi.bel sl[k]
      have hsn := List.take_succ_eq_append_getElem hkl
      obtain ⟨s, hs'⟩ : ∃ s, sl[k] = s := ⟨_, rfl⟩
      rw [hs'] at c1 hcall hsn
      have hnx : Hid ((sl.take (k + 1)).filter (fun y => decide (y ∈ b) == hs) = o ++ (if decide (s ∈ b) == hs then [s] else [])) := by
        show _ = _
        rw [hsn, List.filter_append, ← hoe.out]
        congr 1
        simp only [List.filter_cons, List.filter_nil]
      obtain ⟨d, hd⟩ : ∃ d, decide (s ∈ b) = d := ⟨_, rfl⟩
      rw [hd] at hcall hnx
      have d0 : decide (k < n) = true := decide_eq_true hlt
      have d1 : decide ((k : Int) < (n : Int)) = true := decide_eq_true (by omega)
      have k0 : (0 : Int) ≤ (k : Int) := by omega
      have k1 : (k : Int) < (n : Int) := by omega
      have HM := Lib.hid hmi
      have HO := Lib.hid hown
      have HC := Lib.hid hcall
      have HOK := Lib.hid hok
      have hCr : C ≤ wr.heap.size := hmi.le
      clear hg hs' hmi hown hcall hd hoe hsn hok
      go_wp2_with fail
      refine HC.out.mono ?_
      rintro e wr2 ⟨rfl, hb2⟩
      have hm2 : Mine C w2 wr2 := ⟨Nat.le_trans hCr hb2.size, HM.out.bel.trans (hb2.mono hCr)⟩
      have ho2 := HO.out.below hb2
      have HM2 := Lib.hid hm2
      have HO2 := Lib.hid ho2
      clear hm2 ho2 hb2 HM HO HC
      cases hz : (d == hs)
      · rw [hz] at hnx
        go_wp2
        go_roundw
        case rel => exact ⟨k + 1, o, ⟨by go_num, by omega⟩, by show _ = _; have := hnx.out; simpa using this.symm, HO2.out, by have := HOK.out; omega, HM2.out⟩
        case measure => simp [intOf]; omega
      · rw [hz] at hnx
        have hba : Below wr2.heap.size wr2 (wr2.alloc (.cells #[eI s] 2)) := (Below.refl _ _).alloc (Nat.le_refl _) _
        have HO3 := Lib.hid (HO2.out.alloc (.cells #[eI s] 2))
        have HX3 := Lib.hid (NS_lit wr2 s)
        have HM3 : Hid (Mine C w2 (wr2.alloc (.cells #[eI s] 2))) := ⟨Nat.le_trans HM2.out.le hba.size, HM2.out.bel.trans (hba.mono HM2.out.le)⟩
        have HLL : Hid (o.length + [s].length ≤ 1000000) := by show _ ≤ _; have := HOK.out; simp; omega
        clear hba
        go_wp2_with (at_builtin; refine wpN_append rfl _ _ rfl C _ _ o [s] rfl HO3.out rfl HX3.out (by simp) HLL.out HM3.out.le ?_)
        intro v4 w4 ho4 _ hb4
        have HO4 := Lib.hid ho4
        have HM4 : Hid (Mine C w2 w4) := ⟨Nat.le_trans HM3.out.le hb4.size, HM3.out.bel.trans hb4⟩
        clear ho4 hb4
        go_wp2
        go_roundw
        case rel => exact ⟨k + 1, _, ⟨by go_num, by omega⟩, by show _ = _; have := hnx.out; simpa using this.symm, HO4.out, by have := HOK.out; simp; omega, HM4.out⟩
        case measure => simp [intOf]; omega
    · have d0 : decide (k < n) = false := decide_eq_false hlt
      have d0' : decide ((k : Int) < (n : Int)) = false := decide_eq_false (by omega)
      have he : o = both a b hs := by rw [hoe.out, List.take_of_length_le (by rw [HN.out]; omega), ← HSL.out]; rfl
      have HO := Lib.hid hown
      have HE := Lib.hid he
      have HM := Lib.hid hmi
      clear hown hoe hmi he
      go_wp2
      go_ret
      exact ⟨_, rfl, by rw [← HE.out]; exact HO.out.mono HBC.out, HB2.out.trans (HM.out.bel.mono HBC.out)⟩
set_option maxRecDepth 100000 in
set_option maxHeartbeats 4000000 in
/-- **ref18.Both** -/
theorem qboth_any (va vb : Value) (a b : List Int) (hs : Bool) (w : World) (ha : NS w va a) (hb : NS w vb b) (hla : a.length ≤ 100000) (hlb : b.length ≤ 100000) :
    Calls Try.prog 36 #[va, vb, .bool hs] w fun e w' => ∃ u, e = .returned u ∧ ON w' w.heap.size u (both a b hs) ∧ Below w.heap.size w w' := by
  obtain ⟨B, hB⟩ : ∃ B, w.heap.size = B := ⟨_, rfl⟩
  have HA : Hid (∀ w', Below B w w' → NS w' va a) := fun w' h => ha.below (hB ▸ h)
  have HVB : Hid (∀ w', Below B w w' → NS w' vb b) := fun w' h => hb.below (hB ▸ h)
  have HB0 := Lib.hid hB
  have HLA := Lib.hid hla
  have HLB := Lib.hid hlb
  have H1 := Lib.hid (qof_any va a w (by omega) ha)
  rw [hB] at H1 ⊢
  clear ha hb hB hla hlb
  go_enter Try.func36, Try.ntmps36
  go_wp2_with fail
  refine H1.out.mono ?_
  rintro e w2 ⟨u2, rfl, ho2, hb2⟩
  have hu2 := ho2.reads
  have hn2 : B ≤ w2.heap.size := by rw [← HB0.out]; exact hb2.size
  have HB2 := Lib.hid hb2
  have HU2 : Hid (∀ w', Below w2.heap.size w2 w' → NS w' vb b) := fun w' h => HVB.out w' (hb2.trans (h.mono hn2))
  clear hb2 ho2
  obtain ⟨A, c, rfl, hc, -⟩ := id hu2
  obtain ⟨sl, hsl⟩ : ∃ sl, srtI a = sl := ⟨_, rfl⟩
  rw [hsl] at hu2 hc ⊢
  obtain ⟨n, hn⟩ : ∃ n, sl.length = n := ⟨_, rfl⟩
  have hnl : n ≤ 100000 := by rw [← hn, ← hsl]; exact Nat.le_trans (srtI_len a) HLA.out
  rw [hn] at hu2 hc ⊢
  obtain ⟨C, hC⟩ : ∃ C, w2.heap.size = C := ⟨_, rfl⟩
  have hU := fun wr (h : Below C w2 wr) => (NS.below hu2 (hC ▸ h) : NS wr (.slice A n c) sl)
  have hBC : B ≤ C := by rw [← hC]; exact hn2
  have HU := Lib.hid hU
  have HBC := Lib.hid hBC
  have HSL := Lib.hid hsl
  have HN := Lib.hid hn
  have hasF : ∀ wr, Below C w2 wr → ∀ s, Calls Try.prog 30 #[vb, .int .i64 s] wr fun e w' => e = .returned (.bool (decide (s ∈ b))) ∧ Below wr.heap.size wr w' := by
    intro wr h s
    refine (qhas_any vb b s wr (HU2.out wr (hC ▸ h)) (by have := HLB.out; omega)).mono ?_
    rintro e w' ⟨rfl, rfl⟩
    exact ⟨rfl, Below.refl _ _⟩
  have HASF := Lib.hid hasF
  clear hasF
  clear hU hu2 hsl hn
  go_wp2
  go_loopw [13, 7] (fun i x wr => ∃ (k : Nat) (o : List Int), (i = .int .i64 (k : Int) ∧ k ≤ n) ∧ Hid (o = (sl.take k).filter fun y => decide (y ∈ b) == hs) ∧ ON wr C x o ∧ o.length ≤ k ∧ Mine C w2 wr) (fun i _ _ => n - (intOf i).toNat)
  case atStart => exact ⟨0, [], ⟨rfl, Nat.zero_le _⟩, by show _ = _; simp, ON.nil _ _, Nat.zero_le _, by rw [← hC]; exact Mine.refl w2⟩
  case round =>
    obtain ⟨k, o, ⟨rfl, hk⟩, hoe, hown, hok, hmi⟩ := hrel
    by_cases hlt : k < n
    · have hkl : k < sl.length := by rw [HN.out]; exact hlt
      obtain ⟨g, o1, rfl, hg⟩ := (HU.out wr hmi.bel).at_ HN.out.symm k hkl
      have c1 := hg k hkl
      have hcall := HASF.out wr hmi.bel sl[k]
      have hsn := List.take_succ_eq_append_getElem hkl
      obtain ⟨s, hs'⟩ : ∃ s, sl[k] = s := ⟨_, rfl⟩
      rw [hs'] at c1 hcall hsn
      have hnx : Hid ((sl.take (k + 1)).filter (fun y => decide (y ∈ b) == hs) = o ++ (if decide (s ∈ b) == hs then [s] else [])) := by
        show _ = _
        rw [hsn, List.filter_append, ← hoe.out]
        congr 1
        simp only [List.filter_cons, List.filter_nil]
      obtain ⟨d, hd⟩ : ∃ d, decide (s ∈ b) = d := ⟨_, rfl⟩
      rw [hd] at hcall hnx
      have d0 : decide (k < n) = true := decide_eq_true hlt
      have d1 : decide ((k : Int) < (n : Int)) = true := decide_eq_true (by omega)
      have k0 : (0 : Int) ≤ (k : Int) := by omega
      have k1 : (k : Int) < (n : Int) := by omega
      have HM := Lib.hid hmi
      have HO := Lib.hid hown
      have HC := Lib.hid hcall
      have HOK := Lib.hid hok
      have hCr : C ≤ wr.heap.size := hmi.le
      clear hg hs' hmi hown hcall hd hoe hsn hok
      go_wp2_with fail
      refine HC.out.mono ?_
      rintro e wr2 ⟨rfl, hb2⟩
      have hm2 : Mine C w2 wr2 := ⟨Nat.le_trans hCr hb2.size, HM.out.bel.trans (hb2.mono hCr)⟩
      have ho2 := HO.out.below hb2
      have HM2 := Lib.hid hm2
      have HO2 := Lib.hid ho2
      clear hm2 ho2 hb2 HM HO HC
      cases hz : (d == hs)
      · rw [hz] at hnx
        go_wp2
        go_roundw
        case rel => exact ⟨k + 1, o, ⟨by go_num, by omega⟩, by show _ = _; have := hnx.out; simpa using this.symm, HO2.out, by have := HOK.out; omega, HM2.out⟩
        case measure => simp [intOf]; omega
      · rw [hz] at hnx
        have hba : Below wr2.heap.size wr2 (wr2.alloc (.cells #[eI s] 2)) := (Below.refl _ _).alloc (Nat.le_refl _) _
        have HO3 := Lib.hid (HO2.out.alloc (.cells #[eI s] 2))
        have HX3 := Lib.hid (NS_lit wr2 s)
        have HM3 : Hid (Mine C w2 (wr2.alloc (.cells #[eI s] 2))) := ⟨Nat.le_trans HM2.out.le hba.size, HM2.out.bel.trans (hba.mono HM2.out.le)⟩
        have HLL : Hid (o.length + [s].length ≤ 1000000) := by show _ ≤ _; have := HOK.out; simp; omega
        clear hba
        go_wp2_with (at_builtin; refine wpN_append rfl _ _ rfl C _ _ o [s] rfl HO3.out rfl HX3.out (by simp) HLL.out HM3.out.le ?_)
        intro v4 w4 ho4 _ hb4
        have HO4 := Lib.hid ho4
        have HM4 : Hid (Mine C w2 w4) := ⟨Nat.le_trans HM3.out.le hb4.size, HM3.out.bel.trans hb4⟩
        clear ho4 hb4
        go_wp2
        go_roundw
        case rel => exact ⟨k + 1, _, ⟨by go_num, by omega⟩, by show _ = _; have := hnx.out; simpa using this.symm, HO4.out, by have := HOK.out; simp; omega, HM4.out⟩
        case measure => simp [intOf]; omega
    · have d0 : decide (k < n) = false := decide_eq_false hlt
      have d0' : decide ((k : Int) < (n : Int)) = false := decide_eq_false (by omega)
      have he : o = both a b hs := by rw [hoe.out, List.take_of_length_le (by rw [HN.out]; omega), ← HSL.out]; rfl
      have HO := Lib.hid hown
      have HE := Lib.hid he
      have HM := Lib.hid hmi
      clear hown hoe hmi he
      go_wp2
      go_ret
      exact ⟨_, rfl, by rw [← HE.out]; exact HO.out.mono HBC.out, HB2.out.trans (HM.out.bel.mono HBC.out)⟩
end Go.Proofs.Ytlgodokgebjjaaa

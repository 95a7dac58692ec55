/- The reference's first record. -/
import Derived.RangeFuncNested
import Derived.RangeFuncBound
import Derived.RangeFuncCalls
import Derived.RangeFuncLeaves
import Derived.Shelf.Abstract
import Derived.Shelf.RegionOpen
import Derived.WalkKit
import Derived.OwnWalkIn
import Derived.TacticsInMore
import Derived.LoopNIn
import Derived.LoopIn
import Derived.Outline
import Derived.Lib.Hide
import Derived.Lib.SliceRun
import Derived.IntWalk
import Derived.WalkLawsBesides
import Derived.WalkSpells
import Derived.Laws.BitsAllLaws
import Derived.Lib.ConvBytes
import Derived.Maps.AppendAt
import Derived.Lib.AppendStr
import Derived.Lib.SlBytesConst
import Derived.Laws.AppendOwnNone
import Derived.Laws.OwnMore
import Derived.Laws.BytesArg
import Derived.Deep.RegionHeld3
import Derived.BigQuiet
import Derived.Deep.RegionLaw
import Derived.Deep.QuietTactic
import Derived.Test.YtlgmocmekmppeaaProg
import Derived.Test.YtlgmocmekmppeaaFrG
set_option linter.unusedVariables false
set_option linter.unusedSimpArgs false
namespace Go.Proofs.Ytlgmocmekmppeaa
open Go Go.RowKit Go.Shelf

/-- what stands behind, as the reference hands it back: a part of what came in -/
def restV (A : Option Addr) (c : Nat) (l : List UInt8) : Value := if nextB l then .slice (cutA A c (8 + wordL l)) (l.length - (8 + wordL l)) (c - (8 + wordL l)) else .slice A l.length c
def RNextPost (w : World) (A : Option Addr) (c : Nat) (l : List UInt8) (e : Ending) (w' : World) : Prop :=
  ∃ v1 b0, e = .returned (.tuple #[v1, restV A c l, .bool (nextB l)]) ∧ OB w' b0 v1 (if nextB l then nextX l else []) ∧ Below w.heap.size w w'

set_option maxRecDepth 100000 in
set_option maxHeartbeats 400000 in
theorem rnext_short (A : Option Addr) (c : Nat) (l : List UInt8) (w : World) (hlen : l.length ≤ 1000000) (Hh : Hid (SB w (.slice A l.length c) l)) (h8 : ¬ 8 ≤ l.length) (hf : Hid (nextB l = false)) :
    Calls Try.prog 22 #[.slice A l.length c] w (RNextPost w A c l) := by
  go_enter Try.func22, Try.ntmps22
  go_wp2
  go_ret3
  exact ⟨_, 0, by rw [restV, hf.out]; rfl, by rw [hf.out]; exact World.ownsRow_nil _ _ _ _, Below.refl _ _⟩

set_option maxRecDepth 100000 in
set_option maxHeartbeats 400000 in
theorem rnext_long1 (A : Option Addr) (c : Nat) (l : List UInt8) (w : World) (hlen : l.length ≤ 1000000) (Hh : Hid (SB w (.slice A l.length c) l)) (h8 : 8 ≤ l.length) (hf : Hid (nextB l = false)) (n : Nat) (Hn : Hid (wordL l = n)) (hm : ¬ n ≤ 1000000) (hwl : n < 4294967296)
    (hg : decide ((1000000 : Int) < (n : Int)) = true) :
    Calls Try.prog 22 #[.slice A l.length c] w (RNextPost w A c l) := by
  go_enter Try.func22, Try.ntmps22
  go_wp2_with fail
  refine (number_any _ l w (by omega) Hh.out).mono ?_
  rintro e w1 ⟨rfl, hB1⟩
  rw [Hn.out]
  go_wp2_with fail
  go_quiet (fail)
  go_wp2
  go_ret3
  exact ⟨_, 0, by rw [restV, hf.out]; rfl, by rw [hf.out]; exact World.ownsRow_nil _ _ _ _, below_drewN hB1 _⟩

set_option maxRecDepth 100000 in
set_option maxHeartbeats 400000 in
theorem rnext_long2 (A : Option Addr) (c : Nat) (l : List UInt8) (w : World) (hlen : l.length ≤ 1000000) (Hh : Hid (SB w (.slice A l.length c) l)) (h8 : 8 ≤ l.length) (hf : Hid (nextB l = false)) (n : Nat) (Hn : Hid (wordL l = n)) (hm : n ≤ 1000000) (hm8 : ¬ n ≤ l.length - 8)
    (hg : decide ((1000000 : Int) < (n : Int)) = false) (hg2 : decide ((l.length : Int) - 8 < (n : Int)) = true) :
    Calls Try.prog 22 #[.slice A l.length c] w (RNextPost w A c l) := by
  go_enter Try.func22, Try.ntmps22
  go_wp2_with fail
  refine (number_any _ l w (by omega) Hh.out).mono ?_
  rintro e w1 ⟨rfl, hB1⟩
  rw [Hn.out]
  have hsum : IntKind.i64.wrap ((l.length : Int) - 8) = (l.length : Int) - 8 := IntWalk.i64_in _ (by omega)
  go_wp2_with fail
  go_quiet (fail)
  clear hsum
  go_wp2
  go_ret3
  exact ⟨_, 0, by rw [restV, hf.out]; rfl, by rw [hf.out]; exact World.ownsRow_nil _ _ _ _, below_drewN hB1 _⟩

set_option maxRecDepth 100000 in
set_option maxHeartbeats 400000 in
theorem rnext_bad (A : Option Addr) (c : Nat) (l : List UInt8) (w : World) (hlen : l.length ≤ 1000000) (h : SB w (.slice A l.length c) l) (h8 : 8 ≤ l.length) (hc : l.length ≤ c) (n : Nat) (hm : n ≤ 1000000) (hn8 : n ≤ l.length - 8) (Hn : Hid (wordL l = n))
    (hb : ((crcN ((l.drop 8).take n) : Int) == (wordL (l.drop 4) : Int)) = false) (hf : Hid (nextB l = false))
    (hg : decide ((1000000 : Int) < (n : Int)) = false) (hg2 : decide ((l.length : Int) - 8 < (n : Int)) = false) (hb' : ((crcN ((l.drop 8).take n) : Int) != (wordL (l.drop 4) : Int)) = true) :
    Calls Try.prog 22 #[.slice A l.length c] w (RNextPost w A c l) := by
  have s1 := h.cut 8 n (c - 8) (by omega) rfl
  have s2 := h.cut1 4 (l.length - 4) (c - 4) (by omega) rfl rfl
  have r1 := slice_run2 A l.length c 8 (8 + n) (by omega) (by omega) 8 (8 + (n : Int)) rfl (by simp) n (c - 8) (by omega) rfl
  have r2 := slice_run1 A l.length c 4 (by omega) 4 rfl (l.length - 4) (c - 4) rfl rfl
  have Hh := Lib.hid h
  have S1 := Lib.hid s1
  have S2 := Lib.hid s2
  clear h s1 s2
  go_enter Try.func22, Try.ntmps22
  go_wp2_with fail
  refine (number_any _ l w (by omega) Hh.out).mono ?_
  rintro e w1 ⟨rfl, hB1⟩
  rw [Hn.out]
  go_wp2_with fail
  have hsum : IntKind.i64.wrap ((l.length : Int) - 8) = (l.length : Int) - 8 := IntWalk.i64_in _ (by omega)
  have hsum2 : IntKind.i64.wrap (8 + (n : Int)) = 8 + (n : Int) := IntWalk.i64_in _ (by omega)
  have q1 := fun k => S1.out.below (below_drewN hB1 k)
  have q2 := fun k => S2.out.below (below_drewN hB1 k)
  have Q1 := Lib.hid q1
  have Q2 := Lib.hid q2
  clear q1 q2
  go_quiet (first | (go_at_call 18; exact quiet_left (rcrc_any _ ((l.drop 8).take n) _ (by simp; omega) (Q1.out _))) | (go_at_call 46; exact Calls.quiet_of (number_q _ (l.drop 4) _ (by simp; omega) (Q2.out _))))
  have hB2 := below_drewN hB1 1
  clear Q1 Q2 r1 r2 hsum hsum2 S1 S2
  go_wp2
  go_ret3
  exact ⟨_, 0, by rw [restV, hf.out]; rfl, by rw [hf.out]; exact World.ownsRow_nil _ _ _ _, below_drewN hB1 _⟩

set_option maxRecDepth 100000 in
set_option maxHeartbeats 400000 in
theorem rnext_ok (A : Option Addr) (c : Nat) (l : List UInt8) (w : World) (hlen : l.length ≤ 1000000) (h : SB w (.slice A l.length c) l) (h8 : 8 ≤ l.length) (hc : l.length ≤ c) (n : Nat) (hm : n ≤ 1000000) (hn8 : n ≤ l.length - 8) (Hn : Hid (wordL l = n))
    (hb : ((crcN ((l.drop 8).take n) : Int) == (wordL (l.drop 4) : Int)) = true) (hf : Hid (nextB l = true))
    (hg : decide ((1000000 : Int) < (n : Int)) = false) (hg2 : decide ((l.length : Int) - 8 < (n : Int)) = false) (hb' : ((crcN ((l.drop 8).take n) : Int) != (wordL (l.drop 4) : Int)) = false) :
    Calls Try.prog 22 #[.slice A l.length c] w (RNextPost w A c l) := by
  have s1 := h.cut 8 n (c - 8) (by omega) rfl
  have s2 := h.cut1 4 (l.length - 4) (c - 4) (by omega) rfl rfl
  have r1 := slice_run2 A l.length c 8 (8 + n) (by omega) (by omega) 8 (8 + (n : Int)) rfl (by simp) n (c - 8) (by omega) rfl
  have s3 := h.cut1 (8 + n) (l.length - (8 + n)) (c - (8 + n)) (by omega) rfl rfl
  have r3 := slice_run1 A l.length c (8 + n) (by omega) (8 + (n : Int)) (by simp) (l.length - (8 + n)) (c - (8 + n)) rfl rfl
  have S3 := Lib.hid s3
  have r2 := slice_run1 A l.length c 4 (by omega) 4 rfl (l.length - 4) (c - 4) rfl rfl
  have Hh := Lib.hid h
  have S1 := Lib.hid s1
  have S2 := Lib.hid s2
  clear h s1 s2 s3
  go_enter Try.func22, Try.ntmps22
  go_wp2_with fail
  refine (number_any _ l w (by omega) Hh.out).mono ?_
  rintro e w1 ⟨rfl, hB1⟩
  rw [Hn.out]
  go_wp2_with fail
  have hsum : IntKind.i64.wrap ((l.length : Int) - 8) = (l.length : Int) - 8 := IntWalk.i64_in _ (by omega)
  have hsum2 : IntKind.i64.wrap (8 + (n : Int)) = 8 + (n : Int) := IntWalk.i64_in _ (by omega)
  have q1 := fun k => S1.out.below (below_drewN hB1 k)
  have q2 := fun k => S2.out.below (below_drewN hB1 k)
  have Q1 := Lib.hid q1
  have Q2 := Lib.hid q2
  clear q1 q2
  go_quiet (first | (go_at_call 18; exact quiet_left (rcrc_any _ ((l.drop 8).take n) _ (by simp; omega) (Q1.out _))) | (go_at_call 46; exact Calls.quiet_of (number_q _ (l.drop 4) _ (by simp; omega) (Q2.out _))))
  go_wp2_with fail
  have hsum0 : IntKind.i64.wrap (n : Int) = (n : Int) := IntWalk.i64_in _ (by omega)
  go_region_held3 (fun _ => True) (first | trivial) ((refine stepB_append rfl _ _ rfl w.heap.size (.slice none 0 0) _ [] ((l.drop 8).take n) rfl (World.ownsRow_nil _ _ _ _) rfl (S1.out.below (below_drewN hB1 _).drew) (by simp; omega) (below_drewN hB1 _).drew.size ?_; intro v3 w3 hown3 _ hB3))
  have hBz := (below_drewN hB1 _).drew.trans hB3
  have hx1 := hown3
  clear hsum0 hB3 hown3
  go_wp2
  go_ret3
  exact ⟨v3, _, by rw [restV, hf.out, Hn.out]; rfl, by rw [hf.out]; unfold nextX; rw [Hn.out]; simpa using hx1, hBz⟩

/-- **the reference's Next** -/
theorem rnext_at (A : Option Addr) (c : Nat) (l : List UInt8) (w : World) (hlen : l.length ≤ 1000000) (h1 : l.length ≤ c) (h : SB w (.slice A l.length c) l) : Calls Try.prog 22 #[.slice A l.length c] w (RNextPost w A c l) := by
  by_cases h8 : 8 ≤ l.length
  · by_cases hm : wordL l ≤ 1000000
    · by_cases hn : wordL l ≤ l.length - 8
      · by_cases hq : crcN ((l.drop 8).take (wordL l)) = wordL (l.drop 4)
        · exact rnext_ok A c l w hlen h h8 h1 _ hm hn rfl (by rw [hq]; simp) (by simp [Hid, nextB, h8, hm, hn, hq]) (by simp; omega) (by simp; omega) (by rw [hq]; simp)
        · exact rnext_bad A c l w hlen h h8 h1 _ hm hn rfl (by simpa [beq_eq_false_iff_ne] using fun e => hq (by exact_mod_cast e)) (by simp [Hid, nextB, hq]) (by simp; omega) (by simp; omega) (by simpa using fun e => hq (by exact_mod_cast e))
      · exact rnext_long2 A c l w hlen h h8 (nextB_long (fun h => hn h.2)) _ rfl hm hn (by simp; omega) (by simp; omega)
    · exact rnext_long1 A c l w hlen h h8 (nextB_long (fun h => hm h.1)) _ rfl hm (wordL_lt l) (by simp; omega)
  · exact rnext_short A c l w hlen h h8 (by simp [Hid, nextB, h8])
theorem nextB_fits {l : List UInt8} (hb : nextB l = true) : 8 + wordL l ≤ l.length := by
  simp only [nextB, Bool.and_eq_true, decide_eq_true_eq] at hb
  omega
theorem SB.rest {W : World} {A : Option Addr} {c : Nat} {l : List UInt8} (h : SB W (.slice A l.length c) l) : SB W (restV A c l) (if nextB l then nextR l else l) := by
  unfold restV
  by_cases hb : nextB l = true
  · rw [if_pos hb, if_pos hb]
    exact h.cut1 _ _ _ (nextB_fits hb) rfl rfl
  · rw [if_neg hb, if_neg hb]
    exact h
theorem rnext_any (v : Value) (l : List UInt8) (w : World) (hlen : l.length ≤ 1000000) (h : SB w v l) : Calls Try.prog 22 #[v] w (NextPost w l) := by
  obtain ⟨A, c, rfl, h1, h2, -⟩ := h.form
  refine (rnext_at A c l w hlen h1 h).mono ?_
  rintro e w' ⟨v1, b0, rfl, ho, hB⟩
  exact ⟨v1, _, rfl, ⟨b0, ho⟩, (h.below hB).rest, hB⟩
end Go.Proofs.Ytlgmocmekmppeaa

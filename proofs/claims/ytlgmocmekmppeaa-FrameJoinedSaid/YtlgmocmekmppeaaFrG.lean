/- The first record of some bytes. -/
import Derived.RangeFuncNested
import Derived.RangeFuncBound
import Derived.RangeFuncCalls
import Derived.RangeFuncLeaves
import Derived.Shelf.Abstract
import Derived.Shelf.RegionOpen
import Derived.WalkKit
import Derived.OwnWalkIn
import Derived.TacticsInMore
import Derived.LoopNIn
import Derived.LoopIn
import Derived.Outline
import Derived.Lib.Hide
import Derived.Lib.SliceRun
import Derived.IntWalk
import Derived.WalkLawsBesides
import Derived.WalkSpells
import Derived.Laws.BitsAllLaws
import Derived.Lib.ConvBytes
import Derived.Maps.AppendAt
import Derived.Lib.AppendStr
import Derived.Lib.SlBytesConst
import Derived.Laws.AppendOwnNone
import Derived.Laws.OwnMore
import Derived.Laws.BytesArg
import Derived.Deep.RegionHeld3
import Derived.BigQuiet
import Derived.Deep.QuietTactic
import Derived.Test.YtlgmocmekmppeaaProg
import Derived.Test.YtlgmocmekmppeaaFrF
set_option linter.unusedVariables false
set_option linter.unusedSimpArgs false
namespace Go.Proofs.Ytlgmocmekmppeaa
open Go Go.RowKit Go.Shelf

/-- where a slice's part begins -/
def cutA (A : Option Addr) (c lo : Nat) : Option Addr := if c = lo then A else A.map (·.add lo)

theorem size5 (w : World) : (sizeOf 5).run Try.prog w = .ok 1 w := by kernel_rfl

theorem elem22 : Try.prog.elem 22 = 5 := by kernel_rfl

theorem slice_run2 (A : Option Addr) (n c lo hi : Nat) (h1 : lo ≤ hi) (h2 : hi ≤ c) (i j : Int) (ei : i = lo) (ej : j = hi) (m d : Nat) (em : m = hi - lo) (ed : d = c - lo) (w : World) :
    (Instr.slice 22 (.slice A n c) (some (.int .i64 i)) (some (.int .i64 j)) none).run Try.prog w = .ok (.slice (cutA A c lo) m d) w := by
  subst ei ej em ed
  rw [run_slice_lh w 22 A n c (by rw [elem22]; exact Try.underlying22) .i64 .i64 lo hi (by omega) (by omega) (by omega), elem22, size5]
  simp [Result.andThen, sliced, cutA]
theorem slice_run1 (A : Option Addr) (n c lo : Nat) (h1 : lo ≤ n) (i : Int) (ei : i = lo) (m d : Nat) (em : m = n - lo) (ed : d = c - lo) (w : World) :
    (Instr.slice 22 (.slice A n c) (some (.int .i64 i)) none none).run Try.prog w = .ok (.slice (cutA A c lo) m d) w := by
  subst ei em ed
  rw [run_slice_l w 22 A n c (by rw [elem22]; exact Try.underlying22) .i64 lo (by omega) (by omega), elem22, size5]
  simp [Result.andThen, sliced, cutA]

theorem SB.cut {W : World} {A : Option Addr} {n c : Nat} {l : List UInt8} (h : SB W (.slice A n c) l) (lo m d : Nat) (h1 : lo + m ≤ l.length) (ed : d = c - lo) : SB W (.slice (cutA A c lo) m d) ((l.drop lo).take m) := by
  subst ed
  have hml : ((l.drop lo).take m).length = m := by simp; omega
  rcases h with ⟨he, rfl⟩ | ⟨ad, c', he, h1', h2, h3⟩
  · cases he
    simp at h1
    obtain ⟨rfl, rfl⟩ := h1
    exact .inl ⟨by simp [cutA], by simp⟩
  · cases he
    by_cases hc : c = lo
    · have : m = 0 := by omega
      subst this
      refine .inr ⟨ad, c - lo, by simp [cutA, hc], by simp, by omega, fun h0 => by simp at h0⟩
    · refine .inr ⟨ad.add lo, c - lo, by rw [hml]; simp [cutA, hc], by omega, by omega, fun h0 => ?_⟩
      obtain ⟨g, o, rfl, hcell⟩ := h3 (by omega)
      refine ⟨g, o + lo, by unfold Addr.add; split <;> simp_all, fun i hi => ?_⟩
      rw [hml] at hi
      rw [Nat.add_assoc, hcell (lo + i) (by omega), gb_take _ _ _ hi, gb_drop]
theorem SB.cut1 {W : World} {A : Option Addr} {n c : Nat} {l : List UInt8} (h : SB W (.slice A n c) l) (lo m d : Nat) (h1 : lo ≤ l.length) (em : m = l.length - lo) (ed : d = c - lo) : SB W (.slice (cutA A c lo) m d) (l.drop lo) := by
  have := h.cut lo m d (by omega) ed
  rwa [List.take_of_length_le (by simp; omega)] at this

/-- whether bytes begin with a record; it; what stands behind -/
def nextB (l : List UInt8) : Bool := decide (8 ≤ l.length) && (decide (wordL l ≤ 1000000) && (decide (wordL l ≤ l.length - 8) && decide (crcN ((l.drop 8).take (wordL l)) = wordL (l.drop 4))))
def nextX (l : List UInt8) : List UInt8 := (l.drop 8).take (wordL l)
def nextR (l : List UInt8) : List UInt8 := l.drop (8 + wordL l)

def NextPost (w : World) (l : List UInt8) (e : Ending) (w' : World) : Prop :=
  ∃ v1 v2, e = .returned (.tuple #[v1, v2, .bool (nextB l)]) ∧ (∃ b0, OB w' b0 v1 (if nextB l then nextX l else [])) ∧ SB w' v2 (if nextB l then nextR l else l) ∧ Below w.heap.size w w'

theorem wordL_lt (l : List UInt8) : wordL l < 4294967296 := by
  have h0 := gb_lt' l 0
  have h1 := gb_lt' l 1
  have h2 := gb_lt' l 2
  have h3 := gb_lt' l 3
  unfold wordL
  omega

set_option maxRecDepth 100000 in
set_option maxHeartbeats 400000 in
theorem next_short (A : Option Addr) (c : Nat) (l : List UInt8) (w : World) (hlen : l.length ≤ 1000000) (h : SB w (.slice A l.length c) l) (h8 : ¬ 8 ≤ l.length) :
    Calls Try.prog 21 #[.slice A l.length c] w (NextPost w l) := by
  have hf : nextB l = false := by simp [nextB, h8]
  have Hh := Lib.hid h
  clear h
  go_enter Try.func21, Try.ntmps21
  go_wp2_with fail
  refine (clone_any _ l w (by omega) Hh.out).mono ?_
  rintro e w1 ⟨v1, rfl, hown, hB⟩
  go_wp2
  go_ret3
  exact ⟨_, v1, by rw [hf]; rfl, by rw [hf]; exact ⟨0, World.ownsRow_nil _ _ _ _⟩, by rw [hf]; exact hown.reads, hB⟩

theorem nextB_long {l : List UInt8} (hn : ¬ (wordL l ≤ 1000000 ∧ wordL l ≤ l.length - 8)) : nextB l = false := by
  simp only [nextB, Bool.and_eq_false_iff, decide_eq_false_iff_not]
  omega

set_option maxRecDepth 100000 in
set_option maxHeartbeats 400000 in
theorem next_long1 (A : Option Addr) (c : Nat) (l : List UInt8) (w : World) (hlen : l.length ≤ 1000000) (Hh : Hid (SB w (.slice A l.length c) l)) (h8 : 8 ≤ l.length) (hf : Hid (nextB l = false)) (n : Nat) (Hn : Hid (wordL l = n)) (hm : ¬ n ≤ 1000000) (hwl : n < 4294967296) :
    Calls Try.prog 21 #[.slice A l.length c] w (NextPost w l) := by
  go_enter Try.func21, Try.ntmps21
  go_wp2_with fail
  refine (word_any _ l w (by omega) (by omega) Hh.out).mono ?_
  rintro e w1 ⟨rfl, hB1⟩
  rw [Hn.out]
  go_wp2_with fail
  refine (clone_any _ l _ (by omega) (Hh.out.below hB1)).mono ?_
  rintro e w2 ⟨v1, rfl, hown, hB⟩
  go_wp2
  go_ret3
  exact ⟨_, v1, by rw [hf.out]; rfl, by rw [hf.out]; exact ⟨0, World.ownsRow_nil _ _ _ _⟩, by rw [hf.out]; exact hown.reads, hB1.trans (hB.mono hB1.size)⟩

set_option maxRecDepth 100000 in
set_option maxHeartbeats 400000 in
theorem next_long2 (A : Option Addr) (c : Nat) (l : List UInt8) (w : World) (hlen : l.length ≤ 1000000) (Hh : Hid (SB w (.slice A l.length c) l)) (h8 : 8 ≤ l.length) (hf : Hid (nextB l = false)) (n : Nat) (Hn : Hid (wordL l = n)) (hm : n ≤ 1000000) (hm8 : ¬ n ≤ l.length - 8) :
    Calls Try.prog 21 #[.slice A l.length c] w (NextPost w l) := by
  go_enter Try.func21, Try.ntmps21
  go_wp2_with fail
  refine (word_any _ l w (by omega) (by omega) Hh.out).mono ?_
  rintro e w1 ⟨rfl, hB1⟩
  rw [Hn.out]
  go_wp2_with fail
  refine (clone_any _ l _ (by omega) (Hh.out.below hB1)).mono ?_
  rintro e w2 ⟨v1, rfl, hown, hB⟩
  go_wp2
  go_ret3
  exact ⟨_, v1, by rw [hf.out]; rfl, by rw [hf.out]; exact ⟨0, World.ownsRow_nil _ _ _ _⟩, by rw [hf.out]; exact hown.reads, hB1.trans (hB.mono hB1.size)⟩

set_option maxRecDepth 100000 in
set_option maxHeartbeats 400000 in
theorem next_bad (A : Option Addr) (c : Nat) (l : List UInt8) (w : World) (hlen : l.length ≤ 1000000) (h : SB w (.slice A l.length c) l) (h8 : 8 ≤ l.length) (hc : l.length ≤ c) (n : Nat) (hm : n ≤ 1000000) (hn8 : n ≤ l.length - 8) (Hn : Hid (wordL l = n))
    (hb : ((crcN ((l.drop 8).take n) : Int) == (wordL (l.drop 4) : Int)) = false) (hf : Hid (nextB l = false)) :
    Calls Try.prog 21 #[.slice A l.length c] w (NextPost w l) := by
  have s1 := h.cut 8 n (c - 8) (by omega) rfl
  have s2 := h.cut1 4 (l.length - 4) (c - 4) (by omega) rfl rfl
  have s3 := h.cut1 (8 + n) (l.length - (8 + n)) (c - (8 + n)) (by omega) rfl rfl
  have r1 := slice_run2 A l.length c 8 (8 + n) (by omega) (by omega) 8 (8 + (n : Int)) rfl (by simp) n (c - 8) (by omega) rfl
  have r2 := slice_run1 A l.length c 4 (by omega) 4 rfl (l.length - 4) (c - 4) rfl rfl
  have r3 := slice_run1 A l.length c (8 + n) (by omega) (8 + (n : Int)) (by simp) (l.length - (8 + n)) (c - (8 + n)) rfl rfl
  have Hh := Lib.hid h
  have S1 := Lib.hid s1
  have S2 := Lib.hid s2
  have S3 := Lib.hid s3
  clear h s1 s2 s3
  go_enter Try.func21, Try.ntmps21
  go_wp2_with fail
  refine (word_any _ l w (by omega) (by omega) Hh.out).mono ?_
  rintro e w1 ⟨rfl, hB1⟩
  rw [Hn.out]
  go_wp2_with fail
  go_region_with (first | (go_at_call 17; refine (crc_any _ ((l.drop 8).take n) _ (by simp; omega) (S1.out.below hB1.drew)).mono ?_; rintro e wx ⟨rfl, rfl⟩) | (go_at_call 44; refine (word_any _ (l.drop 4) _ (by simp; omega) (by simp; omega) (S2.out.below hB1.drew)).mono ?_; rintro e wy ⟨rfl, hB2⟩))
  have hBy := hB1.drew.trans (hB2.mono hB1.size)
  clear hB2
  go_wp2_with fail
  refine (clone_any _ l _ (by omega) (Hh.out.below hBy)).mono ?_
  rintro e w2 ⟨v1, rfl, hown, hB⟩
  go_wp2
  go_ret3
  exact ⟨_, v1, by rw [hf.out]; rfl, by rw [hf.out]; exact ⟨0, World.ownsRow_nil _ _ _ _⟩, by rw [hf.out]; exact hown.reads, hBy.trans (hB.mono hBy.size)⟩

set_option maxRecDepth 100000 in
set_option maxHeartbeats 400000 in
theorem next_ok (A : Option Addr) (c : Nat) (l : List UInt8) (w : World) (hlen : l.length ≤ 1000000) (h : SB w (.slice A l.length c) l) (h8 : 8 ≤ l.length) (hc : l.length ≤ c) (n : Nat) (hm : n ≤ 1000000) (hn8 : n ≤ l.length - 8) (Hn : Hid (wordL l = n))
    (hb : ((crcN ((l.drop 8).take n) : Int) == (wordL (l.drop 4) : Int)) = true) (hf : Hid (nextB l = true)) :
    Calls Try.prog 21 #[.slice A l.length c] w (NextPost w l) := by
  have s1 := h.cut 8 n (c - 8) (by omega) rfl
  have s2 := h.cut1 4 (l.length - 4) (c - 4) (by omega) rfl rfl
  have s3 := h.cut1 (8 + n) (l.length - (8 + n)) (c - (8 + n)) (by omega) rfl rfl
  have r1 := slice_run2 A l.length c 8 (8 + n) (by omega) (by omega) 8 (8 + (n : Int)) rfl (by simp) n (c - 8) (by omega) rfl
  have r2 := slice_run1 A l.length c 4 (by omega) 4 rfl (l.length - 4) (c - 4) rfl rfl
  have r3 := slice_run1 A l.length c (8 + n) (by omega) (8 + (n : Int)) (by simp) (l.length - (8 + n)) (c - (8 + n)) rfl rfl
  have Hh := Lib.hid h
  have S1 := Lib.hid s1
  have S2 := Lib.hid s2
  have S3 := Lib.hid s3
  clear h s1 s2 s3
  go_enter Try.func21, Try.ntmps21
  go_wp2_with fail
  refine (word_any _ l w (by omega) (by omega) Hh.out).mono ?_
  rintro e w1 ⟨rfl, hB1⟩
  rw [Hn.out]
  go_wp2_with fail
  go_region_with (first | (go_at_call 17; refine (crc_any _ ((l.drop 8).take n) _ (by simp; omega) (S1.out.below hB1.drew)).mono ?_; rintro e wx ⟨rfl, rfl⟩) | (go_at_call 44; refine (word_any _ (l.drop 4) _ (by simp; omega) (by simp; omega) (S2.out.below hB1.drew)).mono ?_; rintro e wy ⟨rfl, hB2⟩))
  have hBy := hB1.drew.trans (hB2.mono hB1.size)
  clear hB2
  go_wp2_with fail
  have hsum : IntKind.i64.wrap (8 + (n : Int)) = 8 + (n : Int) := IntWalk.i64_in _ (by omega)
  go_region_with (first | (go_at_call 45; refine (clone_any _ ((l.drop 8).take n) _ (by simp; omega) (S1.out.below hBy.drew)).mono ?_; clear S1; rintro e wx ⟨v1, rfl, hown1, hB3⟩) | (go_at_call 45; refine (clone_any _ (l.drop (8 + n)) _ (by simp; omega) (S3.out.below (hBy.drew.trans (hB3.mono hBy.size)))).mono ?_; rintro e wz ⟨v2, rfl, hown2, hB4⟩))
  have hBz := (hBy.drew.trans (hB3.mono hBy.size)).trans (hB4.mono (Nat.le_trans hBy.size hB3.size))
  have hx1 := hown1.below hB4
  have hx2 := hown2.reads
  clear hB3 hB4 hown1 hown2 hsum r1 r2 r3
  go_wp2
  go_ret3
  exact ⟨v1, v2, by rw [hf.out]; rfl, by rw [hf.out]; unfold nextX; rw [Hn.out]; exact ⟨_, hx1⟩, by rw [hf.out]; unfold nextR; rw [Hn.out]; exact hx2, hBz⟩

/-- **frame.Next** -/
theorem next_any (v : Value) (l : List UInt8) (w : World) (hlen : l.length ≤ 1000000) (h : SB w v l) : Calls Try.prog 21 #[v] w (NextPost w l) := by
  obtain ⟨A, c, rfl, h1, h2, -⟩ := h.form
  by_cases h8 : 8 ≤ l.length
  · by_cases hm : wordL l ≤ 1000000
    · by_cases hn : wordL l ≤ l.length - 8
      · by_cases hq : crcN ((l.drop 8).take (wordL l)) = wordL (l.drop 4)
        · exact next_ok A c l w hlen h h8 h1 _ hm hn rfl (by rw [hq]; simp) (by simp [Hid, nextB, h8, hm, hn, hq])
        · exact next_bad A c l w hlen h h8 h1 _ hm hn rfl (by simpa [beq_eq_false_iff_ne] using fun e => hq (by exact_mod_cast e)) (by simp [Hid, nextB, hq])
      · exact next_long2 A c l w hlen h h8 (nextB_long (fun h => hn h.2)) _ rfl hm hn
    · exact next_long1 A c l w hlen h h8 (nextB_long (fun h => hm h.1)) _ rfl hm (wordL_lt l)
  · exact next_short A c l w hlen h h8
end Go.Proofs.Ytlgmocmekmppeaa

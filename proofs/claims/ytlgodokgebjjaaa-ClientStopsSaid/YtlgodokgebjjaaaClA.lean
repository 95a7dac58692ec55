/- digit, bytes.Cut at the end of a line, bytes.Equal. -/
import Derived.RangeFuncNested
import Derived.RangeFuncBound
import Derived.RangeFuncCalls
import Derived.RangeFuncLeaves
import Derived.Shelf.Abstract
import Derived.Shelf.RegionOpen
import Derived.WalkKit
import Derived.OwnWalkIn
import Derived.TacticsInMore
import Derived.LoopNIn
import Derived.LoopIn
import Derived.Outline
import Derived.Lib.Hide
import Derived.Lib.SliceRun
import Derived.IntWalk
import Derived.WalkLawsBesides
import Derived.WalkSpells
import Derived.Laws.BitsAllLaws
import Derived.Lib.ConvBytes
import Derived.Maps.AppendAt
import Derived.Lib.AppendStr
import Derived.Lib.SlBytesConst
import Derived.Laws.AppendOwnNone
import Derived.Laws.OwnMore
import Derived.Laws.BytesArg
import Derived.Deep.RegionHeld3
import Derived.BigQuiet
import Derived.Deep.RegionLaw
import Derived.Deep.QuietTactic
import Derived.Lib.OthersKept
import Derived.Test.YtlgodokgebjjaaaProg
import Derived.Deep.DeepFit
import Derived.Test.YtlgodokgebjjaaaPtF
import Derived.Test.YtlgodokgebjjaaaDoC
import Derived.Test.YtlgodokgebjjaaaClMath
set_option linter.unusedVariables false
set_option linter.unusedSimpArgs false
namespace Go.Proofs.Ytlgodokgebjjaaa
open Go Go.RowKit Go.Shelf

theorem quiet_r {P : Program} {f : FuncId} {args : Array Value} {w : World} {n : Nat} {v : Value}
    (h : Calls P f args (w.drewN n) fun e w' => e = .returned v ∧ w' = w.drewN n) : Calls P f args (w.drewN n) fun e w'' => e = .returned v ∧ ∃ m, w'' = w.drewN m :=
  h.mono fun _ _ ⟨he, hm⟩ => ⟨he, n, hm⟩
set_option maxRecDepth 100000 in
set_option maxHeartbeats 400000 in
/-- **digit** -/
theorem digit_any (c lo hi : Nat) (w : World) :
    Calls Try.prog 78 #[.int .u8 (c : Int), .int .u8 (lo : Int), .int .u8 (hi : Int)] w fun e w' => e = .returned (.bool (decide (lo ≤ c) && decide (c ≤ hi))) ∧ w' = w := by
  have e0 : decide ((lo : Int) ≤ (c : Int)) = decide (lo ≤ c) := by simp
  have e1 : decide ((c : Int) ≤ (hi : Int)) = decide (c ≤ hi) := by simp
  obtain ⟨b0, hb0⟩ : ∃ b, decide (lo ≤ c) = b := ⟨_, rfl⟩
  obtain ⟨b1, hb1⟩ : ∃ b, decide (c ≤ hi) = b := ⟨_, rfl⟩
  rw [hb0] at e0 ⊢
  rw [hb1] at e1 ⊢
  cases b0 <;> cases b1 <;>
  · go_enter Try.func78, Try.ntmps78
    go_wp2
    go_ret
    exact ⟨rfl, rfl⟩
/-- two lists of bytes are one -/
theorem bytes_beq (xs ys : List UInt8) : (Lib.bytesOf (nums xs) == Lib.bytesOf (nums ys)) = decide (xs = ys) := by
  rw [nums_of, nums_of]
  by_cases h : xs = ys
  · simp [h]
  · simp [h]
theorem equal_any (A B : Option Addr) (n c m d : Nat) (xs ys : List UInt8) (w : World) (h1 : SB w (.slice A n c) xs) (h2 : SB w (.slice B m d) ys) :
    Calls Try.prog 79 #[.slice A n c, .slice B m d] w fun e w' => e = .returned (.bool (decide (xs = ys))) ∧ w' = w := by
  have e1 := h1.bytesIn
  have e2 := h2.bytesIn
  have := Try.bytes_Equal_all A B n c m d (nums xs) (nums ys) w (by rw [nums_len]; exact e1.1.symm) (by rw [nums_len]; exact e2.1.symm) e1.2 e2.2
  rw [bytes_beq] at this
  exact this
set_option maxRecDepth 100000 in
set_option maxHeartbeats 400000 in
theorem bcut_none (A : Option Addr) (c : Nat) (l : List UInt8) (B d : Nat) (w : World) (h : SB w (.slice A l.length c) l) (hlen : l.length ≤ 4000000) (hm : ML w) (he : SB w (.slice (some ⟨B, 0, none⟩) 2 d) [13, 10]) (hf : fl l = none) :
    Calls Try.prog 77 #[.slice A l.length c, .slice (some ⟨B, 0, none⟩) 2 d] w fun e w' => e = .returned (.tuple #[.slice A l.length c, .slice none 0 0, .bool false]) ∧ Below w.heap.size w w' := by
  have hi := index_any A c l B d w h hlen hm he
  have hx : ixL l = -1 := by
    rcases index_fl l with ⟨_, h⟩ | ⟨a, b, h, _⟩
    · exact h
    · rw [hf] at h; cases h
  rw [hx] at hi
  have HI := Lib.hid hi
  obtain ⟨n, hn⟩ : ∃ n, l.length = n := ⟨_, rfl⟩
  rw [hn] at HI ⊢
  clear hi h he hf hx hn
  go_enter Try.func77, Try.ntmps77
  go_wp2_with fail
  refine HI.out.mono ?_
  rintro e w1 ⟨rfl, hb⟩
  have HB := Lib.hid hb
  go_wp2
  go_ret3
  exact ⟨rfl, HB.out⟩
set_option maxRecDepth 100000 in
set_option maxHeartbeats 1000000 in
theorem bcut_some (A : Option Addr) (c : Nat) (l a b : List UInt8) (B d : Nat) (w : World) (h : SB w (.slice A l.length c) l) (hlen : l.length ≤ 4000000) (hm : ML w) (he : SB w (.slice (some ⟨B, 0, none⟩) 2 d) [13, 10]) (hf : fl l = some (a, b)) :
    Calls Try.prog 77 #[.slice A l.length c, .slice (some ⟨B, 0, none⟩) 2 d] w fun e w' => e = .returned (.tuple #[.slice A (a.length - 2) c, .slice (cutA A c a.length) (l.length - a.length) (c - a.length), .bool true]) ∧ Below w.heap.size w w' := by
  have hi := index_any A c l B d w h hlen hm he
  have hx : ixL l = ((a.length - 2 : Nat) : Int) := by
    rcases index_fl l with ⟨h, _⟩ | ⟨a', b', h, h'⟩
    · rw [hf] at h; cases h
    · rw [hf] at h; cases h; exact h'
  have hfl := fl_len hf
  obtain ⟨A', c', e, hcap, hcm, _⟩ := h.form
  cases e
  obtain ⟨n, hn⟩ : ∃ n, l.length = n := ⟨_, rfl⟩
  obtain ⟨p, hp⟩ : ∃ p, a.length = p := ⟨_, rfl⟩
  obtain ⟨q, hq⟩ : ∃ q, p - 2 = q := ⟨_, rfl⟩
  rw [hx] at hi
  rw [hn, hp] at hfl
  rw [hp, hq, hn] at hi
  rw [hn] at hcap hlen
  rw [hn, hp, hq]
  have HI := Lib.hid hi
  have x0 : (0 : Int) ≤ (q : Int) := by omega
  have x1 : (q : Int) + 2 = (p : Int) := by omega
  have ka := fun w => slice_runh A n c q (by omega) (q : Int) rfl w
  obtain ⟨m, hm'⟩ : ∃ m, n - p = m := ⟨_, rfl⟩
  obtain ⟨k, hk⟩ : ∃ k, c - p = k := ⟨_, rfl⟩
  have kb := fun w => slice_run1 A n c p (by omega) ((q : Int) + 2) x1 m k hm'.symm hk.symm w
  rw [hm', hk]
  have kb2 := fun w => slice_run1 A n c p (by omega) (p : Int) rfl m k hm'.symm hk.symm w
  have y1 : IntKind.i64.wrap ((q : Int) + 2) = (q : Int) + 2 := IntWalk.i64_in _ (by omega)
  have d0 : decide ((0 : Int) ≤ (q : Int)) = true := decide_eq_true x0
  clear hi h he hf hx hn hp hq hfl hm' hk x1
  go_enter Try.func77, Try.ntmps77
  go_wp2_with fail
  refine HI.out.mono ?_
  rintro e w1 ⟨rfl, hb⟩
  have HB := Lib.hid hb
  clear hb
  go_wp2_with fail
  go_quiet (fail)
  go_wp2
  go_ret3
  exact ⟨rfl, below_drewN HB.out _⟩
end Go.Proofs.Ytlgodokgebjjaaa

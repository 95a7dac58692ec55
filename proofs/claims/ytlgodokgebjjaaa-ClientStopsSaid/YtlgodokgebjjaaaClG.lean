/- Exchange: the region that makes the steps, by an invariant. -/
import Derived.RangeFuncNested
import Derived.RangeFuncBound
import Derived.RangeFuncCalls
import Derived.RangeFuncLeaves
import Derived.Shelf.Abstract
import Derived.Shelf.RegionOpen
import Derived.WalkKit
import Derived.OwnWalkIn
import Derived.TacticsInMore
import Derived.LoopNIn
import Derived.LoopIn
import Derived.Outline
import Derived.Lib.Hide
import Derived.Lib.SliceRun
import Derived.IntWalk
import Derived.WalkLawsBesides
import Derived.WalkSpells
import Derived.Laws.BitsAllLaws
import Derived.Lib.ConvBytes
import Derived.Maps.AppendAt
import Derived.Lib.AppendStr
import Derived.Lib.SlBytesConst
import Derived.Laws.AppendOwnNone
import Derived.Laws.OwnMore
import Derived.Laws.BytesArg
import Derived.Deep.RegionHeld3
import Derived.BigQuiet
import Derived.Deep.RegionLaw
import Derived.Deep.QuietTactic
import Derived.Lib.OthersKept
import Derived.Test.YtlgodokgebjjaaaProg
import Derived.Deep.DeepFit
import Derived.Great.BuildSlice
import Derived.Test.YtlgodokgebjjaaaClF
import Derived.Test.YtlgodokgebjjaaaClD
import Derived.Test.YtlgodokgebjjaaaRegI
set_option linter.unusedVariables false
set_option linter.unusedSimpArgs false
namespace Go.Proofs.Ytlgodokgebjjaaa
open Go Go.RowKit Go.Shelf
open Go.Proofs (encStr)

theorem show_any (s : ByteArray) (hm : s.size ≤ 1000000) (w : World) : Calls Try.prog 42 #[.string s] w fun e w' => e = .returned (.string (⟨#[60]⟩ ++ s ++ ⟨#[62]⟩)) ∧ w' = w := by
  have h1 : ¬ (9223372036854775807 : Int) < (((⟨#[60]⟩ : ByteArray).size + s.size : Nat) : Int) := by have : (⟨#[60]⟩ : ByteArray).size = 1 := rfl; omega
  have h2 : ((⟨#[60]⟩ : ByteArray) ++ s).size = 1 + s.size := by rw [ByteArray.size_append]; rfl
  have h3 : (⟨#[62]⟩ : ByteArray).size = 1 := rfl
  have h4 : (⟨#[60]⟩ : ByteArray).size = 1 := rfl
  have k1 := fun w => run_string_add_sum (P := Try.prog) w ⟨#[60]⟩ s (by omega)
  have k2 := fun w => run_string_add_sum (P := Try.prog) w (⟨#[60]⟩ ++ s) ⟨#[62]⟩ (by omega)
  clear h1 h2 h3 h4
  go_enter Try.func42, Try.ntmps42
  go_wp2
  go_ret
  exact ⟨rfl, rfl⟩
/-- the closure 'say' -/
def FN : Value := .func (.func 41) #[] #[]
structure XP where
  h : ByteArray
  f : ByteArray
  r : ByteArray
  vb : Value
  E : Nat → List UInt8
  B13 : Nat
def i64v (n : Nat) : Value := .int .i64 (n : Int)
/-- the steps in memory -/
def rowX (us : Nat → Value) : List Value := [us 0, .int .i64 220, .int .i64 220, us 1, .int .i64 250, .int .i64 250, us 2, .int .i64 250, .int .i64 250, us 3, .int .i64 250, .int .i64 251, us 4, .int .i64 354, .int .i64 354, us 5, .int .i64 250, .int .i64 250]
def stepV (X : XP) (n₀ k : Nat) (lo hi : Int) (v : Value) (w : World) : Prop := ∃ u, v = .agg #[u, .int .i64 lo, .int .i64 hi] ∧ OB w n₀ u (X.E k)
def textV (v : Value) (ss : List (List UInt8)) (w : World) : Prop := TS w v ss
/-- what is known of what an operation yielded -/
def Rl (X : XP) (n₀ : Nat) : Nat → Value → World → Prop
  | 0, v, _ | 5, v, _ | 11, v, _ | 17, v, _ | 24, v, _ => v = FN
  | 1, v, _ => v = .string X.h
  | 6, v, _ => v = .string X.f
  | 12, v, _ => v = .string X.r
  | 21, v, _ => v = X.vb
  | 2, v, w => textV v [[69, 72, 76, 79, 32], bl X.h] w
  | 7, v, _ => v = .string (⟨#[60]⟩ ++ X.f ++ ⟨#[62]⟩)
  | 13, v, _ => v = .string (⟨#[60]⟩ ++ X.r ++ ⟨#[62]⟩)
  | 8, v, w => textV v [[77, 65, 73, 76, 32, 70, 82, 79, 77, 58], bl (⟨#[60]⟩ ++ X.f ++ ⟨#[62]⟩)] w
  | 14, v, w => textV v [[82, 67, 80, 84, 32, 84, 79, 58], bl (⟨#[60]⟩ ++ X.r ++ ⟨#[62]⟩)] w
  | 18, v, w => textV v [[68, 65, 84, 65]] w
  | 25, v, w => textV v [[81, 85, 73, 84]] w
  | 3, v, w => OB w n₀ v (X.E 0)
  | 9, v, w => OB w n₀ v (X.E 1)
  | 15, v, w => OB w n₀ v (X.E 2)
  | 19, v, w => OB w n₀ v (X.E 3)
  | 22, v, w => OB w n₀ v (X.E 4)
  | 26, v, w => OB w n₀ v (X.E 5)
  | 4, v, w => stepV X n₀ 0 220 220 v w
  | 10, v, w => stepV X n₀ 1 250 250 v w
  | 16, v, w => stepV X n₀ 2 250 250 v w
  | 20, v, w => stepV X n₀ 3 250 251 v w
  | 23, v, w => stepV X n₀ 4 354 354 v w
  | 27, v, w => stepV X n₀ 5 250 250 v w
  | 28, v, w => ∃ g us, v = .slice (some ⟨g, 0, none⟩) 6 6 ∧ Row w g 50 (rowX us) ∧ n₀ ≤ g ∧ ∀ k, k < 6 → OB w n₀ (us k) (X.E k)
  | 29, v, w => ∃ g, v = .pointer (some ⟨g, 0, none⟩) ∧ Boxed w g 52 (.slice none 0 0) ∧ n₀ ≤ g
  | _, _, _ => True
theorem boxed_below {W W' : World} {B : Nat} {t : TypeId} {v : Value} (h : Boxed W B t v) (hb : Below W.heap.size W W') : Boxed W' B t v := (hb.block B h.lt).trans h
theorem stepV.below {X : XP} {n₀ k : Nat} {lo hi : Int} {v : Value} {w w' : World} (h : stepV X n₀ k lo hi v w) (hb : Below w.heap.size w w') : stepV X n₀ k lo hi v w' := by
  obtain ⟨u, rfl, h⟩ := h
  exact ⟨u, rfl, h.below hb⟩
theorem Rl_below (X : XP) (n₀ : Nat) (v : Value) (w w' : World) (hb : Below w.heap.size w w') : ∀ i, i < 30 → Rl X n₀ i v w → Rl X n₀ i v w' := by
  intro i hi h
  match i, hi, h with
  | 0, _, h => exact h
  | 1, _, h => exact h
  | 2, _, h => exact TS.below h hb
  | 3, _, h => exact OB.below h hb
  | 4, _, h => exact stepV.below h hb
  | 5, _, h => exact h
  | 6, _, h => exact h
  | 7, _, h => exact h
  | 8, _, h => exact TS.below h hb
  | 9, _, h => exact OB.below h hb
  | 10, _, h => exact stepV.below h hb
  | 11, _, h => exact h
  | 12, _, h => exact h
  | 13, _, h => exact h
  | 14, _, h => exact TS.below h hb
  | 15, _, h => exact OB.below h hb
  | 16, _, h => exact stepV.below h hb
  | 17, _, h => exact h
  | 18, _, h => exact TS.below h hb
  | 19, _, h => exact OB.below h hb
  | 20, _, h => exact stepV.below h hb
  | 21, _, h => exact h
  | 22, _, h => exact OB.below h hb
  | 23, _, h => exact stepV.below h hb
  | 24, _, h => exact h
  | 25, _, h => exact TS.below h hb
  | 26, _, h => exact OB.below h hb
  | 27, _, h => exact stepV.below h hb
  | 28, _, h => exact (match h with | ⟨g, us, e, hr, hn, ho⟩ => ⟨g, us, e, hr.belowS hb, hn, fun k hk => OB.below (ho k hk) hb⟩)
  | 29, _, h => exact (match h with | ⟨g, e, hx, hn⟩ => ⟨g, e, boxed_below hx hb, hn⟩)
  | n + 30, hi, _ => exact absurd hi (by omega)
def DS : List Nat := [14, 34, 35, 36, 37, 38, 39, 40, 41, 42, 43, 44, 45, 46, 47, 48, 49, 50, 51, 52, 53, 54, 55, 56, 57, 58, 59, 60, 61, 62]
def DD (i : Nat) : Nat := if i = 29 then 14 else 34 + i
/-- what is known at the end -/
def FinX (X : XP) (n₀ : Nat) (x : Nat → Value) (w : World) : Prop := ∃ g g2 us, x 14 = .pointer (some ⟨g, 0, none⟩) ∧ Boxed w g 52 (.slice (some ⟨g2, 0, none⟩) 6 6) ∧ n₀ ≤ g ∧ Row w g2 50 (rowX us) ∧ n₀ ≤ g2 ∧ (∀ k, k < 6 → OB w n₀ (us k) (X.E k)) ∧ g ≠ g2
def InvX (X : XP) (n₀ : Nat) (w0 : World) (a0 : Act) (listed : Array Bool) (a : Act) (w : World) : Prop :=
  ∃ x, a = mkA a0 DS x ∧ listed.size = 31 ∧ Mine n₀ w0 w ∧ (listed.getD 30 true = false → ∀ i, i < 30 → listed.getD i false = true → Rl X n₀ i (x (DD i)) w) ∧ (listed.getD 30 true = true → FinX X n₀ x w ∧ ∀ i, i < 31 → listed.getD i true = true)
theorem DD_mem (i : Nat) (hi : i < 30) : DD i ∈ DS := by
  have : ∀ i, i < 30 → DD i ∈ DS := by decide
  exact this i hi
theorem DD_inj (i j : Nat) (hi : i < 30) (hj : j < 30) (h : DD i = DD j) : i = j := by
  have : ∀ i, i < 30 → ∀ j, j < 30 → DD i = DD j → i = j := by decide +kernel
  exact this i hi j hj h
theorem InvX.put {X : XP} {n₀ : Nat} {w0 : World} {a0 : Act} {listed : Array Bool} {x : Nat → Value} {w w' : World} (hs : listed.size = 31) (hm : Mine n₀ w0 w) (h30 : listed.getD 30 true = false)
    (hR : ∀ i, i < 30 → listed.getD i false = true → Rl X n₀ i (x (DD i)) w) (i : Nat) (hi : i < 30) (d : Nat) (hd : DD i = d) (v : Value) (hb : Below w.heap.size w w') (hv : Rl X n₀ i v w') :
    InvX X n₀ w0 a0 (listed.setIfInBounds i true) ((mkA a0 DS x).put (some d) v) w' := by
  subst hd
  refine ⟨updA x (DD i) v, mkA_put _ _ _ _ _ (DD_mem i hi), by simp [hs], hm.call hb, fun _ j hj hl => ?_, fun h => ?_⟩
  · by_cases e : j = i
    · subst e; rw [updA_same]; exact hv
    · rw [updA_other _ _ _ _ (fun h => e (DD_inj _ _ hj hi h))]
      refine Rl_below X n₀ _ w w' hb j hj (hR j hj ?_)
      rw [getD_set_ne false (fun h => e h.symm)] at hl
      exact hl
  · rw [getD_set_ne true (show i ≠ 30 by omega), h30] at h
    cases h
theorem listed_of {listed : Array Bool} {i : Nat} (hs : listed.size = 31) (hi : i < 31) (h : listed.getD i false = true) : listed.getD i true = true := by
  simp [hs, hi] at h ⊢; exact h
theorem evS {X : XP} (a : Act) (x : Nat → Value) (t : Nat) (ht : t ∈ DS) (hs : a.tmps.size = 99) (hb : t < 99) : (mkA a DS x).eval (.tmp t) = x t := mkA_eval a DS x t ht (by rw [hs]; exact hb)
/-! one operation each -/
theorem x_move (w : World) (ρ : Operand → Value) (o : Oper) (y : Operand) (v : Value) (ho : o.op = .move y) (hv : ρ y = v) : (execOp ρ o).run Try.prog w = .ok (.value v) w := by
  simp [execOp, ho, hv]
theorem x_load (w : World) (ρ : Operand → Value) (o : Oper) (y : Operand) (B : Nat) (v : Value) (ho : o.op = .load 48 y) (hv : ρ y = .pointer (some ⟨B, 0, none⟩)) (hb : Boxed w B 48 v) : (execOp ρ o).run Try.prog w = .ok (.value v) w := by
  have hc := hb.cell
  simp [execOp, ho, hv, go_sem, hc]
theorem x_say (w : World) (ρ : Operand → Value) (o : Oper) (y z : Operand) (u : Value) (ts : Array TypeId) (ho : o.op = .call { callee := .value y, args := #[z], argTypes := ts }) (hy : ρ y = FN) (hz : ρ z = u) : (execOp ρ o).run Try.prog w = .ok (.enter 41 #[u]) w := by
  have he := enters_of Try.func41 (by kernel_rfl) rfl #[u] w
  simp [execOp, ho, resolve, invoke, hy, hz, FN, go_sem]
theorem x_fun (w : World) (ρ : Operand → Value) (o : Oper) (fn : Nat) (z : Operand) (u : Value) (ts : Array TypeId) (ho : o.op = .call { callee := .value (.func fn), args := #[z], argTypes := ts }) (hf : ρ (.func fn) = .func (.func fn) #[] #[]) (hz : ρ z = u) (he : ∀ args w, (callFunc fn args).run Try.prog w = .ok (.enter fn args) w) : (execOp ρ o).run Try.prog w = .ok (.enter fn #[u]) w := by
  have he := he #[u] w
  simp [execOp, ho, resolve, invoke, hf, hz, go_sem]
  exact he
theorem x_step (w : World) (ρ : Operand → Value) (o : Oper) (y : Operand) (lo hi : Int) (u : Value) (ho : o.op = .build 50 #[(0, y), (1, .const (.int .i64 lo)), (2, .const (.int .i64 hi))]) (hv : ρ y = u) (h1 : ρ (.const (.int .i64 lo)) = .int .i64 lo) (h2 : ρ (.const (.int .i64 hi)) = .int .i64 hi) (hu : ∃ A n c, u = .slice A n c) : (execOp ρ o).run Try.prog w = .ok (.value (.agg #[u, .int .i64 lo, .int .i64 hi])) w := by
  obtain ⟨A, n, c, rfl⟩ := hu
  have hr : (Instr.build 50 #[(0, .slice A n c), (1, .int .i64 lo), (2, .int .i64 hi)]).run Try.prog w = .ok (.agg #[.slice A n c, .int .i64 lo, .int .i64 hi]) w := by kernel_rfl
  simp [execOp, ho, hv, h1, h2, hr]
theorem x_texts1 (w : World) (ρ : Operand → Value) (o : Oper) (y : Operand) (s : ByteArray) (ho : o.op = .buildSlice 47 1 #[(0, y)]) (hv : ρ y = .string s) : (execOp ρ o).run Try.prog w = .ok (.value (.slice (some ⟨w.heap.size, 0, none⟩) 1 1)) (w.alloc (.cells #[.string s] 9)) := by
  have hr : (Instr.buildSlice 47 1 #[(0, .string s)]).run Try.prog w = .ok (.slice (some ⟨w.heap.size, 0, none⟩) 1 1) (w.alloc (.cells #[.string s] 9)) := by
    obtain ⟨i0, hi, hz0, hz1, hz2⟩ := info_parts infoStr
    exact run_buildSlice w 47 9 1 _ _ i0 _ Try.underlying47 hi hz0 (by rw [hz1]; decide) (by rw [hz1]; decide) (by rw [hz1]; kernel_rfl)
  simp [execOp, ho, hv, hr]
theorem x_texts2 (w : World) (ρ : Operand → Value) (o : Oper) (y z : Operand) (s t : ByteArray) (ho : o.op = .buildSlice 47 2 #[(0, y), (1, z)]) (hv : ρ y = .string s) (hz : ρ z = .string t) : (execOp ρ o).run Try.prog w = .ok (.value (.slice (some ⟨w.heap.size, 0, none⟩) 2 2)) (w.alloc (.cells #[.string s, .string t] 9)) := by
  have hr : (Instr.buildSlice 47 2 #[(0, .string s), (1, .string t)]).run Try.prog w = .ok (.slice (some ⟨w.heap.size, 0, none⟩) 2 2) (w.alloc (.cells #[.string s, .string t] 9)) := by
    obtain ⟨i0, hi, hz0, hz1, hz2⟩ := info_parts infoStr
    exact run_buildSlice w 47 9 2 _ _ i0 _ Try.underlying47 hi hz0 (by rw [hz1]; decide) (by rw [hz1]; decide) (by rw [hz1]; kernel_rfl)
  simp [execOp, ho, hv, hz, hr]
theorem infoStep : (Try.prog.info? 50).map (fun i => (i.zero, i.size, i.bytes)) = some (some (.agg #[.slice none 0 0, .int .i64 0, .int .i64 0]), 3, 40) := by kernel_rfl
theorem x_steps (w : World) (ρ : Operand → Value) (o : Oper) (ys : Nat → Operand) (us : Nat → Value) (ho : o.op = .buildSlice 52 6 #[(0, ys 0), (1, ys 1), (2, ys 2), (3, ys 3), (4, ys 4), (5, ys 5)])
    (h0 : ρ (ys 0) = .agg #[us 0, .int .i64 220, .int .i64 220]) (h1 : ρ (ys 1) = .agg #[us 1, .int .i64 250, .int .i64 250]) (h2 : ρ (ys 2) = .agg #[us 2, .int .i64 250, .int .i64 250]) (h3 : ρ (ys 3) = .agg #[us 3, .int .i64 250, .int .i64 251]) (h4 : ρ (ys 4) = .agg #[us 4, .int .i64 354, .int .i64 354]) (h5 : ρ (ys 5) = .agg #[us 5, .int .i64 250, .int .i64 250]) :
    (execOp ρ o).run Try.prog w = .ok (.value (.slice (some ⟨w.heap.size, 0, none⟩) 6 6)) (w.alloc (.cells (rowX us).toArray 50)) := by
  obtain ⟨i0, hi, hz0, hz1, hz2⟩ := info_parts infoStep
  have hr : (Instr.buildSlice 52 6 #[(0, .agg #[us 0, .int .i64 220, .int .i64 220]), (1, .agg #[us 1, .int .i64 250, .int .i64 250]), (2, .agg #[us 2, .int .i64 250, .int .i64 250]), (3, .agg #[us 3, .int .i64 250, .int .i64 251]), (4, .agg #[us 4, .int .i64 354, .int .i64 354]), (5, .agg #[us 5, .int .i64 250, .int .i64 250])]).run Try.prog w = .ok (.slice (some ⟨w.heap.size, 0, none⟩) 6 6) (w.alloc (.cells (rowX us).toArray 50)) :=
    run_buildSlice w 52 50 6 _ _ i0 _ Try.underlying52 hi hz0 (by rw [hz1]; decide) (by rw [hz1]; decide) (by rw [hz1]; kernel_rfl)
  simp [execOp, ho, h0, h1, h2, h3, h4, h5, hr]
theorem x_var (w : World) (ρ : Operand → Value) (o : Oper) (ho : o.op = .alloc 52) : (execOp ρ o).run Try.prog w = .ok (.value (.pointer (some ⟨w.heap.size, 0, none⟩))) (w.alloc (.cells #[.slice none 0 0] 52)) := by
  have hr : (Instr.alloc 52 true (.tuple #[])).run Try.prog w = .ok (.pointer (some ⟨w.heap.size, 0, none⟩)) (w.alloc (.cells #[.slice none 0 0] 52)) := by kernel_rfl
  simp [execOp, ho, hr]
theorem x_store (w : World) (ρ : Operand → Value) (o : Oper) (y z : Operand) (g : Nat) (v v0 : Value) (ho : o.op = .store 52 y z) (hy : ρ y = .pointer (some ⟨g, 0, none⟩)) (hz : ρ z = v) (hv : ∃ A n c, v = .slice A n c) (hb : Boxed w g 52 v0) : (execOp ρ o).run Try.prog w = .ok .skip (w.setCell ⟨g, 0, none⟩ v) := by
  have hc := hb.cell
  have hf := hb.frozen
  obtain ⟨A, n, c, rfl⟩ := hv
  simp [execOp, ho, hy, hz, go_sem, hc, hf]
theorem TS_lit2 (w : World) (s t : ByteArray) : TS (w.alloc (.cells #[.string s, .string t] 9)) (.slice (some ⟨w.heap.size, 0, none⟩) 2 2) [bl s, bl t] := by
  refine ⟨_, 2, rfl, by simp, fun i hi => ⟨_, 0, rfl, ?_⟩⟩
  have hi' : i = 0 ∨ i = 1 := by simp at hi; omega
  rcases hi' with rfl | rfl
  · simp [encStr, mk_bl]
  · simp [encStr, mk_bl]
theorem TS_lit1 (w : World) (s : ByteArray) : TS (w.alloc (.cells #[.string s] 9)) (.slice (some ⟨w.heap.size, 0, none⟩) 1 1) [bl s] := by
  refine ⟨_, 1, rfl, by simp, fun i hi => ⟨_, 0, rfl, ?_⟩⟩
  obtain rfl : i = 0 := by simpa using hi
  simp [encStr, mk_bl]
end Go.Proofs.Ytlgodokgebjjaaa

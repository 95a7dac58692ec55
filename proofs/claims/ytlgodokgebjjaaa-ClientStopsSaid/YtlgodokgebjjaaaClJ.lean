/- The region that gives up: QUIT, the results. -/
import Derived.RangeFuncNested
import Derived.RangeFuncBound
import Derived.RangeFuncCalls
import Derived.RangeFuncLeaves
import Derived.Shelf.Abstract
import Derived.Shelf.RegionOpen
import Derived.WalkKit
import Derived.OwnWalkIn
import Derived.TacticsInMore
import Derived.LoopNIn
import Derived.LoopIn
import Derived.Outline
import Derived.Lib.Hide
import Derived.Lib.SliceRun
import Derived.IntWalk
import Derived.WalkLawsBesides
import Derived.WalkSpells
import Derived.Laws.BitsAllLaws
import Derived.Lib.ConvBytes
import Derived.Maps.AppendAt
import Derived.Lib.AppendStr
import Derived.Lib.SlBytesConst
import Derived.Laws.AppendOwnNone
import Derived.Laws.OwnMore
import Derived.Laws.BytesArg
import Derived.Deep.RegionHeld3
import Derived.BigQuiet
import Derived.Deep.RegionLaw
import Derived.Deep.QuietTactic
import Derived.Lib.OthersKept
import Derived.Test.YtlgodokgebjjaaaProg
import Derived.Deep.DeepFit
import Derived.Test.YtlgodokgebjjaaaClI
set_option linter.unusedVariables false
set_option linter.unusedSimpArgs false
namespace Go.Proofs.Ytlgodokgebjjaaa
open Go Go.RowKit Go.Shelf
open Go.Proofs (encStr)
attribute [local go_sem] Oper.semAt_some

def depsB (ops : Array Oper) (i : Nat) (js : List Nat) : Bool := js.all fun j => match ops[i]? with
  | some o => o.after.any fun e => e.on == j && Region.binds .any e
  | none => false
theorem depsB_spec {ops : Array Oper} {i : Nat} {js : List Nat} {o : Oper} {listed : Array Bool} (h : depsB ops i js = true) (ho : ops[i]? = some o) (hw : ∀ e ∈ o.after, Region.binds .any e = true → listed.getD e.on false = true) (j : Nat) (hj : j ∈ js) : listed.getD j false = true := by
  have h1 := List.all_eq_true.1 h j hj
  rw [ho] at h1
  obtain ⟨k, hk, h2⟩ := Array.any_eq_true.1 h1
  simp only [Bool.and_eq_true, beq_iff_eq] at h2
  have := hw o.after[k] (Array.getElem_mem hk) h2.2
  rw [h2.1] at this
  exact this
def QS : List Nat := [81, 82, 83, 84, 85, 86]
theorem x_loadB (w : World) (ρ : Operand → Value) (o : Oper) (y : Operand) (B : Nat) (A : Option Addr) (n c : Nat) (ho : o.op = .load 22 y) (hv : ρ y = .pointer (some ⟨B, 0, none⟩)) (hb : Boxed w B 22 (.slice A n c)) : (execOp ρ o).run Try.prog w = .ok (.value (.slice A n c)) w := by
  have hc := hb.cell
  simp [execOp, ho, hv, go_sem, hc]
theorem x_storeB (w : World) (ρ : Operand → Value) (o : Oper) (y z : Operand) (g : Nat) (A : Option Addr) (n c : Nat) (v0 : Value) (ho : o.op = .store 22 y z) (hy : ρ y = .pointer (some ⟨g, 0, none⟩)) (hz : ρ z = .slice A n c) (hb : Boxed w g 22 v0) : (execOp ρ o).run Try.prog w = .ok .skip (w.setCell ⟨g, 0, none⟩ (.slice A n c)) := by
  have hc := hb.cell
  have hf := hb.frozen
  simp [execOp, ho, hy, hz, go_sem, hc, hf]
theorem x_storeI (w : World) (ρ : Operand → Value) (o : Oper) (y z : Operand) (g : Nat) (i : Int) (v0 : Value) (ho : o.op = .store 3 y z) (hy : ρ y = .pointer (some ⟨g, 0, none⟩)) (hz : ρ z = .int .i64 i) (hb : Boxed w g 3 v0) : (execOp ρ o).run Try.prog w = .ok .skip (w.setCell ⟨g, 0, none⟩ (.int .i64 i)) := by
  have hc := hb.cell
  have hf := hb.frozen
  simp [execOp, ho, hy, hz, go_sem, hc, hf]
theorem x_appendB {w w' : World} (ρ : Operand → Value) (o : Oper) (s x : Operand) (v xv v' : Value) (ho : o.op = .call { callee := .builtin .append, args := #[s, x], argTypes := #[22, 22] }) (hs : ρ s = v) (hx : ρ x = xv)
    (hrun : (Builtin.append_ #[22, 22] o.type #[v, xv]).run Try.prog w = .ok v' w') : (execOp ρ o).run Try.prog w = .ok (.value v') w' := by
  simp [execOp, ho, resolve, invoke, builtin, hs, hx, hrun, Result.andThen]
/-- append(own, bytes...): where the new row lies -/
theorem runB_append_lies {w : World} (ty : TypeId) (base : Nat) (v xv : Value) (l m : List UInt8) (hown : OB w base v l) (hm : SB w xv m) (h0 : 0 < m.length) (hlen : l.length + m.length ≤ 140737488355328) (hbase : base ≤ w.heap.size) :
    ∃ A n c w', (Builtin.append_ #[22, 22] ty #[v, xv]).run Try.prog w = .ok (.slice A n c) w' ∧ OB w' base (.slice A n c) (l ++ m) ∧ w.grownBy w' v.ownBlock ∧ (∀ r, (Value.slice A n c).ownBlock = some r → v.ownBlock = some r ∨ r = w.heap.size) := by
  obtain ⟨i0, hi, hz0, hz1, hz2⟩ := info_parts info5
  rcases hm with ⟨rfl, rfl⟩ | ⟨ad, c, rfl, h1, h2, h3⟩
  · simp at h0
  obtain ⟨g, cap, w', hrun, r1, r2, r3, _⟩ := run_append_lies (P := Try.prog) w 22 ty base 5 i0 (.int .u8 0) 1 1 Try.underlying22 hi hz0 hz1 hz2 rfl (by decide) v l.length (enc8 l) hown ad m.length c (enc8 m) (by simp [enc8]) (by
      intro j u hj
      have hj' : j < m.length := by have := (List.getElem?_eq_some_iff.1 hj).1; simpa [enc8] using this
      obtain ⟨g, o, rfl, hc⟩ := h3 (by omega)
      rw [enc8_get m j hj'] at hj
      cases hj
      have := hc j hj'
      unfold Addr.add
      split
      · rename_i e; subst e; exact this
      · exact this) (enc8_one m) h0 (by unfold maxLen; omega) (by omega) hbase w.heap.size rfl
  refine ⟨_, _, _, w', hrun, ?_, r2, fun r hr => ?_⟩
  · unfold OB
    rw [enc8_append, List.length_append]
    exact r1
  · have : g = r := by simpa [Value.ownBlock] using hr
    subst this
    exact r3
section
variable {n₀ n₁ n₅ B12 B13 g14 g2 : Nat} {us : Nat → Value} {EF : Nat → List UInt8} {w00 : World} {o L : Nat} {outL : List UInt8} {D M : Nat → Prop} {W0 : World} {outv : Value} {CV : Nat} {a0 : Act}
/-- behind the append -/
structure ZI (n₀ n₁ : Nat) (w00 : World) (out5 : List UInt8) (CV : Nat) (D M : Nat → Prop) (W0 : World) (l6 l7 : Bool) (v : Value) (w : World) : Prop where
  ex : ∃ A n c, v = .slice A n c ∧ OB w (n₁ + 1) (.slice A n c) out5 ∧ ∀ r, (Value.slice A n c).ownBlock = some r → (D r ∨ W0.heap.size ≤ r) ∧ ¬ M r
  kp : KeepOn n₀ M W0 w
  b10 : ∃ u, Boxed w n₀ 22 u ∧ (l6 = true → u = v)
  b11 : ∃ u, Boxed w (n₀ + 1) 3 u ∧ (l7 = true → u = .int .i64 (CV : Int))
  bel : Below n₀ w00 w
  sz : n₁ + 1 ≤ w.heap.size
def InvQ (n₀ n₁ n₅ B12 B13 g14 g2 : Nat) (us : Nat → Value) (EF : Nat → List UInt8) (w00 : World) (o L : Nat) (outL : List UInt8) (D M : Nat → Prop) (W0 : World) (outv : Value) (CV : Nat) (a0 : Act) (listed : Array Bool) (a : Act) (w : World) : Prop :=
  ∃ x, a = mkA a0 QS x ∧ (listed.getD 0 false = true → x 81 = outv) ∧ (listed.getD 1 false = true → x 82 = FN) ∧ (listed.getD 2 false = true → listed.getD 3 false = false → TS w (x 83) [[81, 85, 73, 84]]) ∧ (listed.getD 3 false = true → listed.getD 4 false = false → OB w n₅ (x 84) quitL) ∧ (listed.getD 5 false = true → x 86 = .int .i64 (CV : Int)) ∧
    (listed.getD 4 false = false → KeepOn n₀ M W0 w ∧ XI n₀ n₁ n₅ B12 B13 g14 g2 us EF w00 o L outL D w outv) ∧
    (listed.getD 4 false = true → ZI n₀ n₁ w00 (outL ++ quitL) CV D M W0 (listed.getD 6 false) (listed.getD 7 false) (x 85) w)
theorem gd_ne {listed : Array Bool} {i j : Nat} (d : Bool) (h : i ≠ j) : (listed.setIfInBounds i true).getD j d = listed.getD j d := getD_set_ne d h
theorem gd_eq {listed : Array Bool} {i : Nat} (h : i < listed.size) (d : Bool) : (listed.setIfInBounds i true).getD i d = true := by simp [h]
theorem gd_tf {listed : Array Bool} {i : Nat} (h : i < listed.size) : listed.getD i true = listed.getD i false := by
  rw [Array.getD_eq_getD_getElem?, Array.getD_eq_getD_getElem?, Array.getElem?_eq_getElem h]; rfl
set_option maxHeartbeats 4000000 in
theorem quit_region {id l : Nat} {ops : Array Oper} {Q : Exit → Act → World → Prop} (hsz : ops.size = 8) (hf : forward .any ops = true)
    (o0 o1 o2 o3 o4 o5 o6 o7 : Oper) (e0 : ops[0]? = some o0) (e1 : ops[1]? = some o1) (e2 : ops[2]? = some o2) (e3 : ops[3]? = some o3) (e4 : ops[4]? = some o4) (e5 : ops[5]? = some o5) (e6 : ops[6]? = some o6) (e7 : ops[7]? = some o7)
    (p0 : o0.op = .load 22 (.tmp 12)) (p1 : o1.op = .load 48 (.tmp 13)) (p2 : o2.op = .buildSlice 47 1 #[(0, .const (.string ⟨#[81, 85, 73, 84]⟩))]) (ts : Array TypeId) (p3 : o3.op = .call { callee := .value (.tmp 82), args := #[.tmp 83], argTypes := ts })
    (p4 : o4.op = .call { callee := .builtin .append, args := #[.tmp 81, .tmp 84], argTypes := #[22, 22] }) (p5 : o5.op = .move (.tmp 15)) (p6 : o6.op = .store 22 (.tmp 10) (.tmp 85)) (p7 : o7.op = .store 3 (.tmp 11) (.tmp 86))
    (gs : o0.guard = none ∧ o1.guard = none ∧ o2.guard = none ∧ o3.guard = none ∧ o4.guard = none ∧ o5.guard = none ∧ o6.guard = none ∧ o7.guard = none)
    (ds : o0.dst = some 81 ∧ o1.dst = some 82 ∧ o2.dst = some 83 ∧ o3.dst = some 84 ∧ o4.dst = some 85 ∧ o5.dst = some 86 ∧ o6.dst = none ∧ o7.dst = none)
    (k3 : depsB ops 3 [1, 2] = true) (k4 : depsB ops 4 [0, 3] = true) (k6 : depsB ops 6 [4] = true) (k7 : depsB ops 7 [4, 5, 6] = true)
    (v10 : a0.eval (.tmp 10) = .pointer (some ⟨n₀, 0, none⟩)) (v11 : a0.eval (.tmp 11) = .pointer (some ⟨n₀ + 1, 0, none⟩)) (v12 : a0.eval (.tmp 12) = .pointer (some ⟨B12, 0, none⟩)) (v13 : a0.eval (.tmp 13) = .pointer (some ⟨B13, 0, none⟩)) (v15 : a0.eval (.tmp 15) = .int .i64 (CV : Int)) (hts : a0.tmps.size = 99)
    (hx : XI n₀ n₁ n₅ B12 B13 g14 g2 us EF w00 o L outL D W0 outv) (hov : ∃ A n c, outv = .slice A n c) (hDb : ∀ b, D b → b < W0.heap.size) (hMD : ∀ b, M b → b < W0.heap.size ∧ ¬ D b) (hol : outL.length ≤ 10000000)
    (hQ : ∀ x w, ZI n₀ n₁ w00 (outL ++ quitL) CV D M W0 true true (x 85) w → Q .normal (mkA a0 QS x) w) :
    (Code.region id ops true).wpIn (Fence.wide.inRound l) 0 Try.prog Q a0 W0 := by
  obtain ⟨gd0, gd1, gd2, gd3, gd4, gd5, gd6, gd7⟩ := gs
  obtain ⟨dd0, dd1, dd2, dd3, dd4, dd5, dd6, dd7⟩ := ds
  obtain ⟨pl1, pl2, pl3, pl4, pl5, pl6, pl7, pl8⟩ := hx.pl
  have hev : ∀ x t, t ∈ QS → t < 99 → (mkA a0 QS x).eval (.tmp t) = x t := fun x t h1 h2 => mkA_eval a0 QS x t h1 (by rw [hts]; exact h2)
  have hevn : ∀ x t, t ∉ QS → (mkA a0 QS x).eval (.tmp t) = a0.eval (.tmp t) := fun x t h => mkA_evalN a0 QS x t h
  have rep : ∀ i, (Array.replicate ops.size false).getD i false = false := fun i => by
    rw [Array.getD_eq_getD_getElem?, Array.getElem?_replicate]; split <;> rfl
  refine wpIn_region_invC (by kernel_rfl) hf (InvQ n₀ n₁ n₅ B12 B13 g14 g2 us EF w00 o L outL D M W0 outv CV a0) ?_ ?_ ?_
  · exact ⟨_, (mkA_self a0 QS).symm, fun h => absurd ((rep _).symm.trans h) (by decide), fun h => absurd ((rep _).symm.trans h) (by decide), fun h => absurd ((rep _).symm.trans h) (by decide), fun h => absurd ((rep _).symm.trans h) (by decide), fun h => absurd ((rep _).symm.trans h) (by decide), fun h => ⟨KeepOn.drew _ _ _, hx.keep (KeepOn.drew _ _ _)⟩, fun h => absurd ((rep _).symm.trans h) (by decide)⟩
  · rintro listed a w ⟨x, rfl, h0, h1, h2, h3, h5, h4, h4'⟩ hs hall
    rw [hsz] at hall
    have := h4' (hall 4 (by omega))
    rw [hall 6 (by omega), hall 7 (by omega)] at this
    exact hQ x w this
  · rintro listed a w i o' ⟨x, rfl, h0, h1, h2, h3, h5, h4, h4'⟩ hs hcl ho hl hw
    rw [hsz] at hs
    have hi : i < 8 := by rw [← hsz]; exact (Array.getElem?_eq_some_iff.1 ho).1
    have hc4 : listed.getD 4 false = false ∨ listed.getD 4 false = true := by cases listed.getD 4 false <;> simp
    have hc6 : listed.getD 4 false = false → listed.getD 6 false = false := fun h => by
      cases h6 : listed.getD 6 false with
      | false => rfl
      | true => have := depsB_spec k6 e6 (hcl 6 o6 e6 h6) 4 (by decide); rw [h] at this; cases this
    have hc7 : listed.getD 4 false = false → listed.getD 7 false = false := fun h => by
      cases h6 : listed.getD 7 false with
      | false => rfl
      | true => have := depsB_spec k7 e7 (hcl 7 o7 e7 h6) 4 (by decide); rw [h] at this; cases this
    have hx4 : ∀ j, j ∈ [0, 3] → listed.getD 4 false = true → listed.getD j false = true := fun j hj h => depsB_spec k4 e4 (hcl 4 o4 e4 h) j hj
    have hx3 : ∀ j, j ∈ [1, 2] → listed.getD 3 false = true → listed.getD j false = true := fun j hj h => depsB_spec k3 e3 (hcl 3 o3 e3 h) j hj
    have hx7 : ∀ j, j ∈ [4, 5, 6] → listed.getD 7 false = true → listed.getD j false = true := fun j hj h => depsB_spec k7 e7 (hcl 7 o7 e7 h) j hj
    rcases (by omega : i = 0 ∨ i = 1 ∨ i = 2 ∨ i = 3 ∨ i = 4 ∨ i = 5 ∨ i = 6 ∨ i = 7) with rfl | rfl | rfl | rfl | rfl | rfl | rfl | rfl
    · obtain rfl : o0 = o' := Option.some.inj (e0.symm.trans ho)
      have c4 : listed.getD 4 false = false := hc4.resolve_right fun h => by have := hx4 0 (by decide) h; rw [hl] at this; cases this
      obtain ⟨q1, q2⟩ := h4 c4
      obtain ⟨A, n, c, rfl⟩ := hov
      refine wpOpIn_value ho gd0 (by rw [p0]; intro c h; cases h) (x_loadB w _ _ _ B12 A n c p0 ((hevn x 12 (by decide)).trans v12) q2.b12) ?_
      rw [dd0, mkA_put _ _ _ _ _ (by decide)]
      refine ⟨_, rfl, fun _ => updA_same _ _ _, ?_⟩
      simp only [updA_other x 81 82 _ (by decide), updA_other x 81 83 _ (by decide), updA_other x 81 84 _ (by decide), updA_other x 81 85 _ (by decide), updA_other x 81 86 _ (by decide), gd_ne false (show (0 : Nat) ≠ 1 by decide), gd_ne false (show (0 : Nat) ≠ 2 by decide), gd_ne false (show (0 : Nat) ≠ 3 by decide), gd_ne false (show (0 : Nat) ≠ 4 by decide), gd_ne false (show (0 : Nat) ≠ 5 by decide), gd_ne false (show (0 : Nat) ≠ 6 by decide), gd_ne false (show (0 : Nat) ≠ 7 by decide)]
      exact ⟨h1, h2, h3, h5, h4, h4'⟩
    · obtain rfl : o1 = o' := Option.some.inj (e1.symm.trans ho)
      have c3 : listed.getD 3 false = false := by
        cases h : listed.getD 3 false with
        | false => rfl
        | true => have := hx3 1 (by decide) h; rw [hl] at this; cases this
      have c4 : listed.getD 4 false = false := hc4.resolve_right fun h => by have := hx4 3 (by decide) h; rw [c3] at this; cases this
      obtain ⟨q1, q2⟩ := h4 c4
      refine wpOpIn_value ho gd1 (by rw [p1]; intro c h; cases h) (x_load w _ _ _ B13 FN p1 ((hevn x 13 (by decide)).trans v13) q2.b13) ?_
      rw [dd1, mkA_put _ _ _ _ _ (by decide)]
      refine ⟨_, rfl, ?_, fun _ => updA_same _ _ _, ?_⟩
      · rw [updA_other x 82 81 _ (by decide), gd_ne false (show (1 : Nat) ≠ 0 by decide)]; exact h0
      simp only [updA_other x 82 83 _ (by decide), updA_other x 82 84 _ (by decide), updA_other x 82 85 _ (by decide), updA_other x 82 86 _ (by decide), gd_ne false (show (1 : Nat) ≠ 2 by decide), gd_ne false (show (1 : Nat) ≠ 3 by decide), gd_ne false (show (1 : Nat) ≠ 4 by decide), gd_ne false (show (1 : Nat) ≠ 5 by decide), gd_ne false (show (1 : Nat) ≠ 6 by decide), gd_ne false (show (1 : Nat) ≠ 7 by decide)]
      exact ⟨h2, h3, h5, h4, h4'⟩
    · obtain rfl : o2 = o' := Option.some.inj (e2.symm.trans ho)
      have c3 : listed.getD 3 false = false := by
        cases h : listed.getD 3 false with
        | false => rfl
        | true => have := hx3 2 (by decide) h; rw [hl] at this; cases this
      have c4 : listed.getD 4 false = false := hc4.resolve_right fun h => by have := hx4 3 (by decide) h; rw [c3] at this; cases this
      obtain ⟨q1, q2⟩ := h4 c4
      have hba : Below w.heap.size w (w.alloc (.cells #[.string ⟨#[81, 85, 73, 84]⟩] 9)) := (Below.refl _ _).alloc (Nat.le_refl _) _
      refine wpOpIn_value ho gd2 (by rw [p2]; intro c h; cases h) (x_texts1 w _ _ _ ⟨#[81, 85, 73, 84]⟩ p2 rfl) ?_
      rw [dd2, mkA_put _ _ _ _ _ (by decide)]
      refine ⟨_, rfl, ?_, ?_, fun _ _ => by rw [updA_same]; exact TS_lit1 w _, ?_, ?_, fun _ => ⟨q1.trans (KeepOn.of_below hba), q2.below hba⟩, ?_⟩
      · rw [updA_other x 83 81 _ (by decide), gd_ne false (show (2 : Nat) ≠ 0 by decide)]; exact h0
      · rw [updA_other x 83 82 _ (by decide), gd_ne false (show (2 : Nat) ≠ 1 by decide)]; exact h1
      · rw [gd_ne false (show (2 : Nat) ≠ 3 by decide), c3]; intro h; cases h
      · rw [updA_other x 83 86 _ (by decide), gd_ne false (show (2 : Nat) ≠ 5 by decide)]; exact h5
      · rw [gd_ne false (show (2 : Nat) ≠ 4 by decide), c4]; intro h; cases h
    · obtain rfl : o3 = o' := Option.some.inj (e3.symm.trans ho)
      have c4 : listed.getD 4 false = false := hc4.resolve_right fun h => by have := hx4 3 (by decide) h; rw [hl] at this; cases this
      obtain ⟨q1, q2⟩ := h4 c4
      have r1 := h1 (depsB_spec k3 e3 hw 1 (by decide))
      have r2 := h2 (depsB_spec k3 e3 hw 2 (by decide)) hl
      refine wpOpIn_enter ho gd3 (by rw [p3]; intro c h; cases h) (x_say w _ _ _ _ _ _ p3 ((hev x 82 (by decide) (by decide)).trans r1) (hev x 83 (by decide) (by decide))) ?_
      refine (say_any _ _ w (by simp) r2).mono ?_
      rintro e w2 ⟨u, rfl, hou, hb⟩
      refine ⟨u, rfl, ?_⟩
      rw [dd3, mkA_put _ _ _ _ _ (by decide)]
      refine ⟨_, rfl, ?_, ?_, fun _ h => (by rw [gd_eq (by omega)] at h; cases h), fun _ _ => by rw [updA_same]; exact OB.mono hou (by have := q2.sz; omega), ?_, fun _ => ⟨q1.trans (KeepOn.of_below hb), q2.below hb⟩, ?_⟩
      · rw [updA_other x 84 81 _ (by decide), gd_ne false (show (3 : Nat) ≠ 0 by decide)]; exact h0
      · rw [updA_other x 84 82 _ (by decide), gd_ne false (show (3 : Nat) ≠ 1 by decide)]; exact h1
      · rw [updA_other x 84 86 _ (by decide), gd_ne false (show (3 : Nat) ≠ 5 by decide)]; exact h5
      · rw [gd_ne false (show (3 : Nat) ≠ 4 by decide), c4]; intro h; cases h
    · obtain rfl : o4 = o' := Option.some.inj (e4.symm.trans ho)
      obtain ⟨q1, q2⟩ := h4 hl
      have r0 := h0 (depsB_spec k4 e4 hw 0 (by decide))
      have r3 := h3 (depsB_spec k4 e4 hw 3 (by decide)) hl
      have hql : quitL.length = 6 := rfl
      obtain ⟨A, n, c, w', hrun, a1, a2, a3⟩ := runB_append_lies o4.type (n₁ + 1) _ _ outL quitL q2.out r3.reads (by rw [hql]; omega) (by omega) q2.sz
      refine wpOpIn_value ho gd4 (by rw [p4]; intro c h; cases h) (x_appendB _ _ _ _ _ _ _ p4 ((hev x 81 (by decide) (by decide)).trans r0) (hev x 84 (by decide) (by decide)) hrun) ?_
      rw [dd4, mkA_put _ _ _ _ _ (by decide)]
      obtain ⟨z1, z2, -, -, -, -, -, z8, z9⟩ := q2.grown (fun b hb => Nat.lt_of_lt_of_le (hDb b hb) q1.size) a1 a2 a3
      have hk5 : KeepOn n₀ M W0 w' := q1.trans (KeepOn.of_grown a2 (fun r e => by have := (World.ownsRow.lt q2.out r e).1; exact ⟨by omega, fun hm => (hMD r hm).2 (q2.ow r e)⟩))
      have c6 := hc6 hl
      have c7 := hc7 hl
      refine ⟨_, rfl, ?_, ?_, ?_, fun _ h => (by rw [gd_eq (by omega)] at h; cases h), ?_, fun h => (by rw [gd_eq (by omega)] at h; cases h), fun _ => ⟨⟨A, n, c, updA_same _ _ _, a1, fun r hr => ?_⟩, hk5, ⟨_, z1, fun h => (by rw [gd_ne false (show (4 : Nat) ≠ 6 by decide), c6] at h; cases h)⟩, ⟨_, z2, fun h => (by rw [gd_ne false (show (4 : Nat) ≠ 7 by decide), c7] at h; cases h)⟩, z8, z9⟩⟩
      · rw [updA_other x 85 81 _ (by decide), gd_ne false (show (4 : Nat) ≠ 0 by decide)]; exact h0
      · rw [updA_other x 85 82 _ (by decide), gd_ne false (show (4 : Nat) ≠ 1 by decide)]; exact h1
      · rw [gd_ne false (show (4 : Nat) ≠ 3 by decide), depsB_spec k4 e4 hw 3 (by decide)]; intro _ h; cases h
      · rw [updA_other x 85 86 _ (by decide), gd_ne false (show (4 : Nat) ≠ 5 by decide)]; exact h5
      · rcases a3 r hr with e | e
        · exact ⟨.inl (q2.ow r e), fun hm => (hMD r hm).2 (q2.ow r e)⟩
        · exact ⟨.inr (by rw [e]; exact q1.size), fun hm => by have := (hMD r hm).1; have := q1.size; omega⟩
    · obtain rfl : o5 = o' := Option.some.inj (e5.symm.trans ho)
      refine wpOpIn_value ho gd5 (by rw [p5]; intro c h; cases h) (x_move w _ _ _ _ p5 ((hevn x 15 (by decide)).trans v15)) ?_
      rw [dd5, mkA_put _ _ _ _ _ (by decide)]
      refine ⟨_, rfl, ?_, ?_, ?_, ?_, fun _ => updA_same _ _ _, ?_, ?_⟩
      · rw [updA_other x 86 81 _ (by decide), gd_ne false (show (5 : Nat) ≠ 0 by decide)]; exact h0
      · rw [updA_other x 86 82 _ (by decide), gd_ne false (show (5 : Nat) ≠ 1 by decide)]; exact h1
      · rw [updA_other x 86 83 _ (by decide), gd_ne false (show (5 : Nat) ≠ 2 by decide), gd_ne false (show (5 : Nat) ≠ 3 by decide)]; exact h2
      · rw [updA_other x 86 84 _ (by decide), gd_ne false (show (5 : Nat) ≠ 3 by decide), gd_ne false (show (5 : Nat) ≠ 4 by decide)]; exact h3
      · rw [gd_ne false (show (5 : Nat) ≠ 4 by decide)]; exact h4
      · rw [updA_other x 86 85 _ (by decide), gd_ne false (show (5 : Nat) ≠ 4 by decide), gd_ne false (show (5 : Nat) ≠ 6 by decide), gd_ne false (show (5 : Nat) ≠ 7 by decide)]; exact h4'
    · obtain rfl : o6 = o' := Option.some.inj (e6.symm.trans ho)
      have l4 := depsB_spec k6 e6 hw 4 (by decide)
      have hz := h4' l4
      obtain ⟨A, n, c, ev, z1, z2⟩ := hz.ex
      obtain ⟨u, zb, -⟩ := hz.b10
      obtain ⟨u1, zb1, zu1⟩ := hz.b11
      refine wpOpIn_skip ho gd6 (by rw [p6]; intro c h; cases h) (x_storeB w _ _ _ _ n₀ A n c u p6 ((hevn x 10 (by decide)).trans v10) ((hev x 85 (by decide) (by decide)).trans ev) zb) ?_
      rw [dd6]
      show InvQ _ _ _ _ _ _ _ _ _ _ _ _ _ _ _ _ _ _ _ _ (mkA a0 QS x) _
      have hM0 : ¬ M n₀ := fun hm => (hMD _ hm).2 (hx.lo _ (by omega))
      have ks := KeepOn.setCell w n₀ (.slice A n c) (Nat.le_refl n₀) hM0
      refine ⟨x, rfl, ?_, ?_, ?_, ?_, ?_, fun h => (by rw [gd_ne false (show (6 : Nat) ≠ 4 by decide), l4] at h; cases h), fun _ => ⟨⟨A, n, c, ev, OB.setBox z1 zb, z2⟩, hz.kp.trans ks, ⟨_, zb.set _, fun _ => ev.symm⟩, ⟨u1, boxed_set_other zb1 (by omega), fun h => zu1 (by rw [gd_ne false (show (6 : Nat) ≠ 7 by decide)] at h; exact h)⟩, hz.bel.trans (ks.below (by have := hz.sz; omega)), by rw [size_set]; exact hz.sz⟩⟩
      · rw [gd_ne false (show (6 : Nat) ≠ 0 by decide)]; exact h0
      · rw [gd_ne false (show (6 : Nat) ≠ 1 by decide)]; exact h1
      · rw [gd_ne false (show (6 : Nat) ≠ 3 by decide), hx4 3 (by decide) l4]; intro _ h; cases h
      · rw [gd_ne false (show (6 : Nat) ≠ 4 by decide), l4]; intro _ h; cases h
      · rw [gd_ne false (show (6 : Nat) ≠ 5 by decide)]; exact h5
    · obtain rfl : o7 = o' := Option.some.inj (e7.symm.trans ho)
      have l4 := depsB_spec k7 e7 hw 4 (by decide)
      have hz := h4' l4
      obtain ⟨A, n, c, ev, z1, z2⟩ := hz.ex
      obtain ⟨u, zb, zu⟩ := hz.b10
      obtain ⟨u1, zb1, zu1⟩ := hz.b11
      refine wpOpIn_skip ho gd7 (by rw [p7]; intro c h; cases h) (x_storeI w _ _ _ _ (n₀ + 1) (CV : Int) u1 p7 ((hevn x 11 (by decide)).trans v11) ((hev x 86 (by decide) (by decide)).trans (h5 (depsB_spec k7 e7 hw 5 (by decide)))) zb1) ?_
      rw [dd7]
      show InvQ _ _ _ _ _ _ _ _ _ _ _ _ _ _ _ _ _ _ _ _ (mkA a0 QS x) _
      have hM0 : ¬ M (n₀ + 1) := fun hm => (hMD _ hm).2 (hx.lo _ (by omega))
      have ks := KeepOn.setCell w (n₀ + 1) (.int .i64 (CV : Int)) (show n₀ ≤ n₀ + 1 by omega) hM0
      refine ⟨x, rfl, ?_, ?_, ?_, ?_, ?_, fun h => (by rw [gd_ne false (show (7 : Nat) ≠ 4 by decide), l4] at h; cases h), fun _ => ⟨⟨A, n, c, ev, OB.setBox z1 zb1, z2⟩, hz.kp.trans ks, ⟨u, boxed_set_other zb (by omega), fun h => zu (by rw [gd_ne false (show (7 : Nat) ≠ 6 by decide)] at h; exact h)⟩, ⟨_, zb1.set _, fun _ => rfl⟩, hz.bel.trans (ks.below (by have := hz.sz; omega)), by rw [size_set]; exact hz.sz⟩⟩
      · rw [gd_ne false (show (7 : Nat) ≠ 0 by decide)]; exact h0
      · rw [gd_ne false (show (7 : Nat) ≠ 1 by decide)]; exact h1
      · rw [gd_ne false (show (7 : Nat) ≠ 3 by decide), hx4 3 (by decide) l4]; intro _ h; cases h
      · rw [gd_ne false (show (7 : Nat) ≠ 4 by decide), l4]; intro _ h; cases h
      · rw [gd_ne false (show (7 : Nat) ≠ 5 by decide)]; exact h5
theorem ZI.post {out5 : List UInt8} {v : Value} {w W : World} (hz : ZI n₀ n₁ w00 out5 CV D M W0 true true v w) (hx : XI n₀ n₁ n₅ B12 B13 g14 g2 us EF w00 o L outL D W outv) (hb : Below W.heap.size W W0) (hMD : ∀ b, M b → b < W.heap.size ∧ ¬ D b) :
    ∃ D', (∀ b, D' b → b < w.heap.size ∧ ¬ M b) ∧ KeepOn n₀ M W w ∧ YI n₀ n₁ w00 out5 CV D' w := by
  obtain ⟨A, n, c, ev, z1, z2⟩ := hz.ex
  obtain ⟨u, zb, zu⟩ := hz.b10
  obtain ⟨u1, zb1, zu1⟩ := hz.b11
  obtain ⟨p1, p2, p3, p4, p5, p6, p7, p8⟩ := hx.pl
  rw [zu rfl, ev] at zb
  rw [zu1 rfl] at zb1
  refine ⟨fun b => b = n₀ ∨ b = n₀ + 1 ∨ (Value.slice A n c).ownBlock = some b, fun b hb' => ?_, (KeepOn.of_below hb).trans hz.kp, ⟨⟨A, n, c, zb, z1, fun r hr => .inr (.inr hr)⟩, zb1, .inl rfl, .inr (.inl rfl), hz.bel, hz.sz, by omega⟩⟩
  rcases hb' with rfl | rfl | hr
  · exact ⟨zb.lt, fun hm => (hMD _ hm).2 (hx.lo _ (by omega))⟩
  · exact ⟨zb1.lt, fun hm => (hMD _ hm).2 (hx.lo _ (by omega))⟩
  · exact ⟨(World.ownsRow.lt z1 b hr).2, (z2 b hr).2⟩
theorem XI.fin {W : World} {A : Option Addr} {n c : Nat} (hx : XI n₀ n₁ n₅ B12 B13 g14 g2 us EF w00 o L outL D W (.slice A n c)) (CV : Nat) : YI n₀ n₁ w00 outL CV D ((W.setCell ⟨n₀, 0, none⟩ (.slice A n c)).setCell ⟨n₀ + 1, 0, none⟩ (.int .i64 (CV : Int))) ∧ ∀ M : Nat → Prop, (∀ b, M b → ¬ D b) → KeepOn n₀ M W ((W.setCell ⟨n₀, 0, none⟩ (.slice A n c)).setCell ⟨n₀ + 1, 0, none⟩ (.int .i64 (CV : Int))) := by
  obtain ⟨p1, p2, p3, p4, p5, p6, p7, p8⟩ := hx.pl
  have hs := hx.sz
  have b1 := boxed_set_other (u := .slice A n c) hx.b11 (show n₀ + 1 ≠ n₀ by omega)
  have hk : ∀ M : Nat → Prop, (∀ b, M b → ¬ D b) → KeepOn n₀ M W ((W.setCell ⟨n₀, 0, none⟩ (.slice A n c)).setCell ⟨n₀ + 1, 0, none⟩ (.int .i64 (CV : Int))) := fun M hM =>
    (KeepOn.setCell W n₀ _ (Nat.le_refl _) (fun hm => hM _ hm (hx.lo _ (by omega)))).trans (KeepOn.setCell (W.setCell ⟨n₀, 0, none⟩ (.slice A n c)) (n₀ + 1) _ (by omega) (fun hm => hM _ hm (hx.lo _ (by omega))))
  exact ⟨⟨⟨A, n, c, boxed_set_other (hx.b10.set _) (by omega), OB.setBox (OB.setBox hx.out hx.b10) b1, hx.ow⟩, b1.set _, hx.lo _ (by omega), hx.lo _ (by omega), hx.bel.trans ((hk (fun _ => False) (fun b h => h.elim)).below (by omega)), by rw [size_set, size_set]; exact hs, by omega⟩, hk⟩
end
end Go.Proofs.Ytlgodokgebjjaaa

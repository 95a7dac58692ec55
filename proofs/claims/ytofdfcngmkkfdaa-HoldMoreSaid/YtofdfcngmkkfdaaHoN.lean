/- slices.Grow, slices.Concat of holds; Lift. -/
import Derived.RangeFuncNested
import Derived.RangeFuncBound
import Derived.RangeFuncCalls
import Derived.RangeFuncLeaves
import Derived.Shelf.Abstract
import Derived.Shelf.RegionOpen
import Derived.WalkKit
import Derived.OwnWalkIn
import Derived.TacticsInMore
import Derived.LoopNIn
import Derived.LoopIn
import Derived.Outline
import Derived.Lib.Hide
import Derived.Lib.SliceRun
import Derived.IntWalk
import Derived.WalkLawsBesides
import Derived.WalkSpells
import Derived.Laws.BitsAllLaws
import Derived.Lib.ConvBytes
import Derived.Maps.AppendAt
import Derived.Lib.AppendStr
import Derived.Lib.SlBytesConst
import Derived.Laws.AppendOwnNone
import Derived.Laws.OwnMore
import Derived.Laws.BytesArg
import Derived.Deep.RegionHeld3
import Derived.BigQuiet
import Derived.Deep.RegionLaw
import Derived.Deep.QuietTactic
import Derived.Lib.OthersKept
import Derived.Test.YtofdfcngmkkfdaaProg
import Derived.Deep.DeepFit
import Derived.Lib.AppendZerosOnto
import Derived.Test.YtofdfcngmkkfdaaHoL
set_option linter.unusedVariables false
set_option linter.unusedSimpArgs false
namespace Go.Proofs.Ytofdfcngmkkfdaa
open Go Go.RowKit Go.Shelf

def cutH (A : Option Addr) (c lo : Nat) : Option Addr := if c = lo then A else A.map (·.add (lo * 2))
theorem sizeHo (w : World) : (sizeOf 47).run Try.prog w = .ok 2 w := by kernel_rfl
theorem elemHo : Try.prog.elem 45 = 47 := by kernel_rfl
theorem hold_runl (A : Option Addr) (n c lo : Nat) (h1 : lo ≤ n) (i : Int) (ei : i = lo) (m d : Nat) (em : m = n - lo) (ed : d = c - lo) (w : World) :
    (Instr.slice 45 (.slice A n c) (some (.int .i64 i)) none none).run Try.prog w = .ok (.slice (cutH A c lo) m d) w := by
  subst ei em ed
  rw [run_slice_l w 45 A n c (by rw [elemHo]; exact Try.underlying45) .i64 lo (by omega) (by omega), elemHo, sizeHo]
  simp [Result.andThen, sliced, cutH]
theorem hold_runh (A : Option Addr) (n c hi : Nat) (h2 : hi ≤ c) (j : Int) (ej : j = hi) (w : World) :
    (Instr.slice 45 (.slice A n c) none (some (.int .i64 j)) none).run Try.prog w = .ok (.slice A hi c) w := by
  subst ej
  rw [run_slice_h w 45 A n c (by rw [elemHo]; exact Try.underlying45) .i64 hi (by omega) (by omega), elemHo, sizeHo]
  cases A with
  | none => simp [Result.andThen, sliced]
  | some a =>
    have : a.add 0 = a := by unfold Addr.add; simp
    simp [Result.andThen, sliced, this]
theorem PV.drop {W : World} {A : Option Addr} {n c : Nat} {xs : List (Value × Value)} (h : PV W (.slice A n c) xs) (k m d : Nat) (hk : k ≤ xs.length) (em : m = n - k) (ed : d = c - k) : PV W (.slice (cutH A c k) m d) (xs.drop k) := by
  obtain ⟨A', c', e, h1, h2⟩ := h
  cases e
  subst em ed
  refine ⟨cutH A c k, c - k, by rw [List.length_drop], by rw [List.length_drop]; omega, fun i x hx => ?_⟩
  rw [List.getElem?_drop] at hx
  have hi : k + i < xs.length := (List.getElem?_eq_some_iff.1 hx).1
  obtain ⟨g, o, rfl, a0, a1⟩ := h2 (k + i) x hx
  refine ⟨g, o + k * 2, ?_, ?_, ?_⟩
  · unfold cutH
    rw [if_neg (by omega)]
    simp only [Option.map_some]
    congr 1
    unfold Addr.add
    split <;> simp_all
  · rw [show o + k * 2 + i * 2 = o + (k + i) * 2 by omega]; exact a0
  · rw [show o + k * 2 + i * 2 + 1 = o + (k + i) * 2 + 1 by omega]; exact a1
theorem hgrow_append (w : World) (ty : TypeId) (k : Nat) (h0 : 0 < k) (hk : k ≤ 1000000) :
    ∃ c w', (Builtin.append_ #[45, 3] ty #[.slice none 0 0, .int .i64 (k : Int)]).run Try.prog w = .ok (.slice (some ⟨w.heap.size, 0, none⟩) k c) w' ∧ OP w' w.heap.size (.slice (some ⟨w.heap.size, 0, none⟩) 0 c) [] ∧ Below w.heap.size w w' ∧ c ≤ 9223372036854775807 := by
  obtain ⟨i0, hi, hz0, hz1, hz2⟩ := info_parts infoH
  have hold : (Builtin.firstCells i0.size 0 (.slice none 0 0)).run Try.prog w.drew = .ok ([] : List Value).toArray w.drew := by
    simp [Builtin.firstCells]
  have hr := Lib.run_append_grow_zeros (P := Try.prog) w 45 3 ty 47 i0 _ .i64 .i64 Try.underlying45 Try.underlying3 hi hz0 none 0 0 [] hold k (by omega) (by omega) (by omega) (by omega) (by rw [hz2]; omega) (by rw [hz2]; exact growslice_fits (by omega) (by omega))
  have hge := grownCap_ge w (0 + k) 0 47
  have hcm : grownCap w (0 + k) 0 47 ≤ maxLen := grownCap_le_maxLen w _ _ _ (by unfold maxLen; omega)
  rw [Nat.zero_add] at hr hge hcm
  refine ⟨_, _, hr, ⟨rfl, .inr ⟨w.heap.size, _, _, rfl, Nat.le_refl _, heap_alloc_new w.drew _, Nat.zero_le _, hcm, ?_, by simp [flat, ruV]⟩⟩, (Below.refl _ w).drew.alloc (Nat.le_refl _) _, by unfold maxLen at hcm; exact hcm⟩
  simp only [Value.cells, Array.size_append, List.size_toArray, List.length_nil, size_zeroCells, List.length_cons]
  omega
theorem wpGH_append {w : World} {ops : Array Oper} {rest : List Oper} {o : Oper} {a : Act} {Q : Exit → Act → World → Prop} (hgd : o.guard = none) (s x : Operand)
    (ho : o.op = .call { callee := .builtin .append, args := #[s, x], argTypes := #[45, 3] }) (k : Nat) (hs : a.eval s = .slice none 0 0) (hx : a.eval x = .int .i64 (k : Int)) (h0 : 0 < k) (hk : k ≤ 1000000)
    (h : ∀ c w', OP w' w.heap.size (.slice (some ⟨w.heap.size, 0, none⟩) 0 c) [] → Below w.heap.size w w' → c ≤ 9223372036854775807 → wpList Try.prog ops Q rest (a.put o.dst (.slice (some ⟨w.heap.size, 0, none⟩) k c)) w') : wpList Try.prog ops Q (o :: rest) a w := by
  refine wpList_plain hgd fun K hK => ?_
  obtain ⟨c, w', hrun, h1, h2, h3⟩ := hgrow_append w o.type k h0 hk
  unfold Oper.wp
  simp [execOp, ho, resolve, invoke, builtin, hs, hx, hrun, Result.andThen]
  exact hK _ _ (h c w' h1 h2 h3)
set_option maxHeartbeats 1000000 in
set_option maxRecDepth 100000 in
theorem hgrow_any (k : Nat) (hk : k ≤ 1000000) (w : World) :
    Calls Try.prog 88 #[.slice none 0 0, .int .i64 (k : Int)] w fun e w' => ∃ u, e = .returned u ∧ OP w' w.heap.size u [] ∧ Below w.heap.size w w' := by
  have g1 : ¬ (k : Int) < 0 := by omega
  have g1' : decide ((k : Int) < 0) = false := decide_eq_false g1
  have x1 : IntKind.i64.wrap (k : Int) = (k : Int) := IntWalk.i64_in _ (by omega)
  have ka := fun w => hold_runh none 0 0 0 (by omega) 0 rfl w
  by_cases h0 : 0 < k
  · have g2 : (0 : Int) < (k : Int) := by omega
    have g3 : decide ((0 : Int) < (k : Int)) = true := decide_eq_true g2
    have g4 : decide (0 < k) = true := decide_eq_true h0
    go_enter Try.func88, Try.ntmps88
    go_wp2_with (at_builtin; refine wpGH_append rfl _ _ rfl k rfl rfl h0 hk ?_)
    intro c w1 ho hb hc
    have HO := Lib.hid ho
    have HB := Lib.hid hb
    have kb := fun w => hold_runh (some ⟨w.heap.size, 0, none⟩) k c 0 (by omega) 0 rfl w
    clear ho hb
    have kc : ∀ W, (Instr.slice 45 (.slice (some ⟨w.heap.size, 0, none⟩) k c) none (some (.int .i64 0)) none).run Try.prog W = .ok (.slice (some ⟨w.heap.size, 0, none⟩) 0 c) W := fun W => hold_runh (some ⟨w.heap.size, 0, none⟩) k c 0 (by omega) 0 rfl W
    clear kb
    go_wp2
    go_ret
    exact ⟨_, rfl, HO.out, HB.out⟩
  · obtain rfl : k = 0 := by omega
    go_enter Try.func88, Try.ntmps88
    go_wp2
    go_ret
    exact ⟨_, rfl, OP.nil _ _, Below.refl _ _⟩
end Go.Proofs.Ytofdfcngmkkfdaa

/- turns: whether the way to a leaf goes right. -/
import Derived.RangeFuncNested
import Derived.RangeFuncBound
import Derived.RangeFuncCalls
import Derived.RangeFuncLeaves
import Derived.Shelf.Abstract
import Derived.Shelf.RegionOpen
import Derived.WalkKit
import Derived.OwnWalkIn
import Derived.TacticsInMore
import Derived.LoopNIn
import Derived.LoopIn
import Derived.Outline
import Derived.Lib.Hide
import Derived.Lib.SliceRun
import Derived.IntWalk
import Derived.WalkLawsBesides
import Derived.WalkSpells
import Derived.Laws.BitsAllLaws
import Derived.Lib.ConvBytes
import Derived.Maps.AppendAt
import Derived.Lib.AppendStr
import Derived.Lib.SlBytesConst
import Derived.Laws.AppendOwnNone
import Derived.Laws.OwnMore
import Derived.Laws.BytesArg
import Derived.Deep.RegionHeld3
import Derived.BigQuiet
import Derived.Deep.RegionLaw
import Derived.Deep.QuietTactic
import Derived.Lib.OthersKept
import Derived.Test.YtkipnhhdlohnfaaProg
import Derived.Deep.DeepFit
import Derived.Test.YtkipnhhdlohnfaaMkM
set_option linter.unusedVariables false
set_option linter.unusedSimpArgs false
namespace Go.Proofs.Ytkipnhhdlohnfaa
open Go Go.RowKit Go.Shelf

theorem hgo_pow : ∀ (f n k : Nat), (∃ e, k = 2 ^ e) → 1 ≤ k → n ≤ k * 2 ^ f → (∃ e, hgo f n k = 2 ^ e) ∧ n ≤ 2 * hgo f n k
  | 0, n, k, h, h1, h2 => ⟨h, by unfold hgo; omega⟩
  | f + 1, n, k, h, h1, h2 => by
    unfold hgo
    split
    · obtain ⟨e, rfl⟩ := h
      refine hgo_pow f n (2 * 2 ^ e) ⟨e + 1, by rw [Nat.pow_succ]; omega⟩ (by omega) ?_
      rw [Nat.pow_succ] at h2
      rw [show 2 * 2 ^ e * 2 ^ f = 2 ^ e * (2 ^ f * 2) by rw [Nat.mul_comm 2 (2 ^ e), Nat.mul_assoc, Nat.mul_comm 2 (2 ^ f)]]
      exact h2
    · exact ⟨h, by omega⟩
theorem hlf_pow (n : Nat) (h : n ≤ 18446744073709551616) : (∃ e, hlf n = 2 ^ e) ∧ n ≤ 2 * hlf n := hgo_pow 64 n 1 ⟨0, rfl⟩ (by omega) (by omega)

/-- from the top down: whether the way to leaf i of n goes right -/
def turnsL (n i : Nat) : List Bool :=
  if h : 2 ≤ n then decide (hlf n ≤ i) :: (if i < hlf n then turnsL (hlf n) i else turnsL (n - hlf n) (i - hlf n)) else []
termination_by n
decreasing_by
  · exact (hlf_range n h).2
  · have := hlf_range n h; omega
theorem turnsL_one (n i : Nat) (h : ¬ 2 ≤ n) : turnsL n i = [] := by rw [turnsL, dif_neg h]
theorem turnsL_left (n i : Nat) (h : 2 ≤ n) (hi : i < hlf n) : turnsL n i = false :: turnsL (hlf n) i := by
  rw [turnsL, dif_pos h, if_pos hi, decide_eq_false (by omega)]
theorem turnsL_right (n i : Nat) (h : 2 ≤ n) (hi : ¬ i < hlf n) : turnsL n i = true :: turnsL (n - hlf n) (i - hlf n) := by
  rw [turnsL, dif_pos h, if_neg hi, decide_eq_true (by omega)]
theorem turnsL_len : ∀ (d n i : Nat), n ≤ 2 ^ d → n ≤ 18446744073709551616 → (turnsL n i).length ≤ d
  | 0, n, i, h, _ => by rw [turnsL_one n i (by have : (2:Nat) ^ 0 = 1 := rfl; omega)]; simp
  | d + 1, n, i, h, hm => by
    by_cases h2 : 2 ≤ n
    · have hk := hlf_range n h2
      obtain ⟨⟨e, he⟩, h3⟩ := hlf_pow n hm
      have hkd : hlf n ≤ 2 ^ d := by
        rw [he]
        refine Nat.pow_le_pow_right (by omega) ?_
        by_cases hed : e ≤ d
        · exact hed
        · have : 2 ^ (d + 1) ≤ 2 ^ e := Nat.pow_le_pow_right (by omega) (by omega)
          omega
      by_cases hi : i < hlf n
      · rw [turnsL_left n i h2 hi, List.length_cons]
        have := turnsL_len d (hlf n) i hkd (by omega)
        omega
      · rw [turnsL_right n i h2 hi, List.length_cons]
        have := turnsL_len d (n - hlf n) (i - hlf n) (by omega) (by omega)
        omega
    · rw [turnsL_one n i h2]; simp
theorem turnsL_63 (n i : Nat) (h : n ≤ 9223372036854775807) : (turnsL n i).length ≤ 63 := turnsL_len 63 n i (by omega) (by omega)

/-! ## Truth values in memory -/
def encT (l : List Bool) : List Value := l.map fun b => .bool b
theorem encT_len (l : List Bool) : (encT l).length = l.length := by simp [encT]
theorem encT_append (a b : List Bool) : encT (a ++ b) = encT a ++ encT b := by simp [encT]
def OT (W : World) (base : Nat) (v : Value) (l : List Bool) : Prop := W.ownsRow base 4 1 v l.length (encT l)
theorem OT_nil (W : World) (base : Nat) : OT W base (.slice none 0 0) [] := World.ownsRow_nil _ _ _ _
theorem infoT : (Try.prog.info? 4).map (fun i => (i.zero, i.size, i.bytes)) = some (some (.bool false), 1, 1) := by kernel_rfl
theorem OT.below {W W' : World} {B : Nat} {v : Value} {l : List Bool} (h : OT W B v l) (hb : Below W.heap.size W W') : OT W' B v l :=
  h.kept (row := none) ⟨hb.os, hb.tape, hb.output, hb.size, fun k hk _ => hb.block k hk⟩ (by cases v.ownBlock <;> simp)
theorem OT.form {W : World} {B : Nat} {v : Value} {l : List Bool} (h : OT W B v l) : ∃ A c, v = .slice A l.length c ∧ l.length ≤ c ∧ c ≤ 9223372036854775807 ∧ (0 < l.length → ∃ g, A = some ⟨g, 0, none⟩ ∧ B ≤ g ∧ ∀ i b, l[i]? = some b → W.cell? ⟨g, i, none⟩ = some (.bool b)) := by
  obtain ⟨hl, h⟩ := h
  rcases h with ⟨rfl, h0⟩ | ⟨g, cap, cur, rfl, hb, hg, hc, hm, hs, ht⟩
  · exact ⟨none, 0, by rw [h0], by omega, by omega, fun h => by omega⟩
  · refine ⟨_, cap, rfl, hc, by unfold maxLen at hm; omega, fun h0 => ⟨g, rfl, hb, fun i b hi => ?_⟩⟩
    have hi' : i < l.length := (List.getElem?_eq_some_iff.1 hi).1
    have e : (encT l)[i]? = some (.bool b) := by simp [encT, hi]
    rw [← ht, List.getElem?_take_of_lt (by omega)] at e
    simp only [World.cell?, hg]
    simpa using e
/-- append(own, one truth value) -/
theorem wpT_append {w : World} {ops : Array Oper} {rest : List Oper} {o : Oper} {a : Act} {Q : Exit → Act → World → Prop} (hgd : o.guard = none) (s x : Operand)
    (ho : o.op = .call { callee := .builtin .append, args := #[s, x], argTypes := #[80, 80] })
    (base : Nat) (v : Value) (l : List Bool) (g : Nat) (c : Nat) (b : Bool) (hs : a.eval s = v) (hown : OT w base v l) (hx : a.eval x = .slice (some ⟨g, 0, none⟩) 1 c) (hc : w.cell? ⟨g, 0, none⟩ = some (.bool b)) (hlen : l.length + 1 ≤ 1000000) (hbase : base ≤ w.heap.size)
    (h : ∀ v' w', OT w' base v' (l ++ [b]) → Below base w w' → wpList Try.prog ops Q rest (a.put o.dst v') w') : wpList Try.prog ops Q (o :: rest) a w := by
  refine wpList_plain hgd fun K hK => ?_
  obtain ⟨i0, hi, hz0, hz1, hz2⟩ := info_parts infoT
  obtain ⟨v', w', hrun, hown', hgrow, _⟩ := run_append_own (P := Try.prog) w base 80 o.type 4 i0 (.bool false) 1 1 Try.underlying80 hi hz0 hz1 hz2 rfl (by decide) v l.length (encT l) hown ⟨g, 0, none⟩ 1 c [.bool b] rfl (fun j u hj => by
    match j with
    | 0 => simp at hj; subst hj; simpa [Addr.add] using hc
    | j + 1 => simp at hj) (by simp [Value.oneCell']) (by unfold maxLen; omega) (by omega) hbase
  unfold Oper.wp
  simp [execOp, ho, resolve, invoke, builtin, hs, hx, hrun, Result.andThen]
  refine hK _ _ (h v' w' ?_ ((Below.refl base w).grown hgrow hbase (fun k hk => (hown.lt k hk).1)))
  unfold OT
  rw [encT_append, List.length_append]
  exact hown'

set_option maxHeartbeats 2000000 in
set_option maxRecDepth 100000 in
/-- **merkle.turns** -/
theorem turns_any (n i : Nat) (hn : n ≤ 9223372036854775807) (hi : i < n) (w : World) :
    Calls Try.prog 55 #[.int .i64 (n : Int), .int .i64 (i : Int)] w fun e w' => ∃ u, e = .returned u ∧ OT w' w.heap.size u (turnsL n i) ∧ Below w.heap.size w w' := by
  obtain ⟨A, hA⟩ : ∃ A, w.heap.size = A := ⟨_, rfl⟩
  have M0 : Hid (Mine A w w) := ⟨by omega, Below.refl _ _⟩
  have h63 := turnsL_63 n i hn
  obtain ⟨res, hres⟩ : ∃ res, turnsL n i = res := ⟨_, rfl⟩
  have HRES := Lib.hid hres
  rw [hres] at h63 ⊢
  clear hres
  rw [hA]
  go_enter Try.func55, Try.ntmps55
  go_wp2
  go_loopw [0, 1, 5] (fun x y l wr => ∃ (p j : Nat) (acc : List Bool), (x = .int .i64 (p : Int) ∧ y = .int .i64 (j : Int) ∧ j < p ∧ p ≤ n) ∧ OT wr A l acc ∧ acc ++ turnsL p j = res ∧ Mine A w wr) (fun x _ _ _ => (intOf x).toNat)
  case atStart => exact ⟨n, i, [], ⟨rfl, rfl, hi, Nat.le_refl _⟩, OT_nil _ _, HRES.out, M0.out⟩
  case round =>
    clear HRES M0
    obtain ⟨p, j, acc, ⟨rfl, rfl, hj, hp⟩, ho, hacc, hm⟩ := hrel
    have hal : acc.length ≤ 63 := by rw [← hacc, List.length_append] at h63; omega
    by_cases h2 : 2 ≤ p
    · have hk := hlf_range p h2
      have hh := fun w => half_any p (by omega) w
      have g1 : (1 : Int) < (p : Int) := by omega
      by_cases hjk : j < hlf p
      · rw [turnsL_left p j h2 hjk] at hacc
        obtain ⟨k, hke⟩ : ∃ k, hlf p = k := ⟨_, rfl⟩
        rw [hke] at hk hjk hacc
        simp only [hke] at hh
        have d1 : decide ((k : Int) ≤ (j : Int)) = false := by simp; omega
        have d2 : decide (k ≤ j) = false := by simp; omega
        have HH := Lib.hid hh
        have HOWN := Lib.hid ho
        have HM := Lib.hid hm
        have HACC : Hid ((acc ++ [false]) ++ turnsL k j = res) := by unfold Hid; rw [← hacc]; simp
        clear ho hm hacc hh hke
        go_wp2_with fail
        refine (HH.out _).mono ?_
        rintro e w1 ⟨rfl, rfl⟩
        have hsz := HM.out.le
        go_wp2_with (at_builtin; refine wpT_append rfl _ _ rfl A _ acc w1.heap.size 1 false rfl (HOWN.out.below ((Below.refl _ w1).alloc (Nat.le_refl _) _)) rfl (by rw [(Row.new w1 #[.bool false] 4).cell 0]; rfl) (by omega) (by rw [alloc_size]; omega) ?_)
        intro v3 w3 ho3 hb3
        have HO3 := Lib.hid ho3
        have HM3 := Lib.hid (Mine.callN hb3 (HM.out.alloc (.cells #[.bool false] 4)) (Nat.le_refl A))
        clear ho3 hb3 HOWN HM
        go_wp2
        go_roundw
        case rel => exact ⟨k, j, acc ++ [false], ⟨rfl, rfl, hjk, by omega⟩, HO3.out, HACC.out, HM3.out⟩
        case measure => simp [intOf]; omega
      · rw [turnsL_right p j h2 hjk] at hacc
        obtain ⟨k, hke⟩ : ∃ k, hlf p = k := ⟨_, rfl⟩
        rw [hke] at hk hjk hacc
        simp only [hke] at hh
        have d1 : decide ((k : Int) ≤ (j : Int)) = true := by simp; omega
        have d2 : decide (k ≤ j) = true := by simp; omega
        have x1 : IntKind.i64.wrap ((p : Int) - (k : Int)) = ((p - k : Nat) : Int) := by rw [IntWalk.i64_in _ (by omega)]; omega
        have x2 : IntKind.i64.wrap ((j : Int) - (k : Int)) = ((j - k : Nat) : Int) := by rw [IntWalk.i64_in _ (by omega)]; omega
        have HH := Lib.hid hh
        have HOWN := Lib.hid ho
        have HM := Lib.hid hm
        have HACC : Hid ((acc ++ [true]) ++ turnsL (p - k) (j - k) = res) := by unfold Hid; rw [← hacc]; simp
        clear ho hm hacc hh hke
        go_wp2_with fail
        refine (HH.out _).mono ?_
        rintro e w1 ⟨rfl, rfl⟩
        have hsz := HM.out.le
        go_wp2_with (at_builtin; refine wpT_append rfl _ _ rfl A _ acc w1.heap.size 1 true rfl (HOWN.out.below ((Below.refl _ w1).alloc (Nat.le_refl _) _)) rfl (by rw [(Row.new w1 #[.bool true] 4).cell 0]; rfl) (by omega) (by rw [alloc_size]; omega) ?_)
        intro v3 w3 ho3 hb3
        have HO3 := Lib.hid ho3
        have HM3 := Lib.hid (Mine.callN hb3 (HM.out.alloc (.cells #[.bool true] 4)) (Nat.le_refl A))
        clear ho3 hb3 HOWN HM
        go_wp2
        go_roundw
        case rel => exact ⟨p - k, j - k, acc ++ [true], ⟨rfl, rfl, by omega, by omega⟩, HO3.out, HACC.out, HM3.out⟩
        case measure => simp [intOf]; omega
    · rw [turnsL_one p j h2, List.append_nil] at hacc
      subst hacc
      have g1 : ¬ (1 : Int) < (p : Int) := by omega
      have HO := Lib.hid ho
      have HB := Lib.hid hm.bel
      clear ho hm
      go_wp2
      go_ret
      exact ⟨_, rfl, HO.out, HB.out⟩
end Go.Proofs.Ytkipnhhdlohnfaa

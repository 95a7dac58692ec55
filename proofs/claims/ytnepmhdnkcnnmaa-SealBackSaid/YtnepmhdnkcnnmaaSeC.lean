/- slices.Grow and slices.Concat of bytes. -/
import Derived.RangeFuncNested
import Derived.RangeFuncBound
import Derived.RangeFuncCalls
import Derived.RangeFuncLeaves
import Derived.Shelf.Abstract
import Derived.Shelf.RegionOpen
import Derived.WalkKit
import Derived.OwnWalkIn
import Derived.TacticsInMore
import Derived.LoopNIn
import Derived.LoopIn
import Derived.Outline
import Derived.Lib.Hide
import Derived.Lib.SliceRun
import Derived.IntWalk
import Derived.WalkLawsBesides
import Derived.WalkSpells
import Derived.Laws.BitsAllLaws
import Derived.Lib.ConvBytes
import Derived.Maps.AppendAt
import Derived.Lib.AppendStr
import Derived.Lib.SlBytesConst
import Derived.Laws.AppendOwnNone
import Derived.Laws.OwnMore
import Derived.Laws.BytesArg
import Derived.Deep.RegionHeld3
import Derived.BigQuiet
import Derived.Deep.RegionLaw
import Derived.Deep.QuietTactic
import Derived.Lib.OthersKept
import Derived.Test.YtnepmhdnkcnnmaaProg
import Derived.Deep.DeepFit
import Derived.Lib.AppendZerosOnto
import Derived.Test.YtnepmhdnkcnnmaaSeB
set_option linter.unusedVariables false
set_option linter.unusedSimpArgs false
namespace Go.Proofs.Ytnepmhdnkcnnmaa
open Go Go.RowKit Go.Shelf

theorem grow_append (w : World) (ty : TypeId) (k : Nat) (h0 : 0 < k) (hk : k ≤ 1000000) :
    ∃ c w', (Builtin.append_ #[34, 3] ty #[.slice none 0 0, .int .i64 (k : Int)]).run Try.prog w = .ok (.slice (some ⟨w.heap.size, 0, none⟩) k c) w' ∧ OB w' w.heap.size (.slice (some ⟨w.heap.size, 0, none⟩) 0 c) [] ∧ Below w.heap.size w w' ∧ c ≤ 9223372036854775807 := by
  obtain ⟨i0, hi, hz0, hz1, hz2⟩ := info_parts info5
  have hold : (Builtin.firstCells i0.size 0 (.slice none 0 0)).run Try.prog w.drew = .ok ([] : List Value).toArray w.drew := by
    simp [Builtin.firstCells]
  have hr := Lib.run_append_grow_zeros (P := Try.prog) w 34 3 ty 5 i0 (.int .u8 0) .i64 .i64 Try.underlying34 Try.underlying3 hi hz0 none 0 0 [] hold k (by omega) (by omega) (by omega) (by omega) (by rw [hz2]; omega) (by rw [hz2]; exact growslice_fits (by omega) (by omega))
  have hge := grownCap_ge w (0 + k) 0 5
  have hcm : grownCap w (0 + k) 0 5 ≤ maxLen := grownCap_le_maxLen w _ _ _ (by unfold maxLen; omega)
  rw [Nat.zero_add] at hr hge hcm
  refine ⟨_, _, hr, ⟨rfl, .inr ⟨w.heap.size, _, _, rfl, Nat.le_refl _, heap_alloc_new w.drew _, Nat.zero_le _, hcm, ?_, by simp [enc8]⟩⟩, (Below.refl _ w).drew.alloc (Nat.le_refl _) _, by unfold maxLen at hcm; exact hcm⟩
  simp only [Value.cells, zeroCells_one, Array.size_append, List.size_toArray, List.length_replicate, List.length_nil]
  omega
theorem wpG_append {w : World} {ops : Array Oper} {rest : List Oper} {o : Oper} {a : Act} {Q : Exit → Act → World → Prop} (hgd : o.guard = none) (s x : Operand)
    (ho : o.op = .call { callee := .builtin .append, args := #[s, x], argTypes := #[34, 3] }) (k : Nat) (hs : a.eval s = .slice none 0 0) (hx : a.eval x = .int .i64 (k : Int)) (h0 : 0 < k) (hk : k ≤ 1000000)
    (h : ∀ c w', OB w' w.heap.size (.slice (some ⟨w.heap.size, 0, none⟩) 0 c) [] → Below w.heap.size w w' → c ≤ 9223372036854775807 → wpList Try.prog ops Q rest (a.put o.dst (.slice (some ⟨w.heap.size, 0, none⟩) k c)) w') : wpList Try.prog ops Q (o :: rest) a w := by
  refine wpList_plain hgd fun K hK => ?_
  obtain ⟨c, w', hrun, h1, h2, h3⟩ := grow_append w o.type k h0 hk
  unfold Oper.wp
  simp [execOp, ho, resolve, invoke, builtin, hs, hx, hrun, Result.andThen]
  exact hK _ _ (h c w' h1 h2 h3)

set_option maxHeartbeats 1000000 in
set_option maxRecDepth 100000 in
theorem grow_any (k : Nat) (h0 : 0 < k) (hk : k ≤ 1000000) (w : World) :
    Calls Try.prog 37 #[.slice none 0 0, .int .i64 (k : Int)] w fun e w' => ∃ u, e = .returned u ∧ OB w' w.heap.size u [] ∧ Below w.heap.size w w' := by
  have g1 : ¬ (k : Int) < 0 := by omega
  have x1 : IntKind.i64.wrap (k : Int) = (k : Int) := IntWalk.i64_in _ (by omega)
  have g2 : (0 : Int) < (k : Int) := by omega
  have ka := fun w => slice_runh none 0 0 0 (by omega) 0 rfl w
  go_enter Try.func37, Try.ntmps37
  go_wp2_with (at_builtin; refine wpG_append rfl _ _ rfl k rfl rfl h0 hk ?_)
  intro c w1 ho hb hc
  have HO := Lib.hid ho
  have HB := Lib.hid hb
  have kb := fun w => slice_runh (some ⟨w.heap.size, 0, none⟩) k c 0 (by omega) 0 rfl w
  clear ho hb
  go_wp2
  go_ret
  exact ⟨_, rfl, HO.out, HB.out⟩

set_option maxHeartbeats 2000000 in
set_option maxRecDepth 100000 in
/-- **slices.Concat** -/
theorem concat_any (v : Value) (ls : List (List UInt8)) (w : World) (hv : SS w v ls) (L : List UInt8) (hL : ls.flatten = L) (h0 : 0 < L.length) (hmax : L.length ≤ 100000) (hls : ls.length ≤ 1000) :
    Calls Try.prog 28 #[v] w fun e w' => ∃ u, e = .returned u ∧ OB w' w.heap.size u L ∧ Below w.heap.size w w' := by
  obtain ⟨A, c, rfl, ⟨hc1, hc2⟩, hcell⟩ := hv.form
  have Hcell := Lib.hid hcell
  have HL := Lib.hid hL
  obtain ⟨B0, hB0⟩ : ∃ B0, w.heap.size = B0 := ⟨_, rfl⟩
  clear hv hcell hL
  have z0 : IntKind.i64.wrap 0 = 0 := by decide
  go_enter Try.func28, Try.ntmps28
  go_wp2
  go_loop [3, 11] (fun x q => ∃ i : Nat, q = .int .i64 (i : Int) ∧ i ≤ ls.length ∧ x = .int .i64 (((ls.take i).flatten.length : Nat) : Int)) (fun _ q => ls.length - (intOf q).toNat)
  case atStart => exact ⟨0, rfl, by omega, rfl⟩
  case round =>
    obtain ⟨i, rfl, hil, rfl⟩ := hrel
    by_cases hlt : i < ls.length
    · obtain ⟨g, o, rfl, hcl⟩ := Hcell.out (by omega)
      obtain ⟨u, hu, hsb⟩ := hcl i hlt
      have hft := flatten_take ls i hlt
      have hle := flatten_take_le ls (i + 1)
      rw [HL.out] at hle
      obtain ⟨An, cn, hun, -⟩ := hsb.form
      subst hun
      have x1 : IntKind.i64.wrap (((ls.take i).flatten.length : Int) + ((ls[i]?.getD []).length : Int)) = (((ls.take (i + 1)).flatten.length : Nat) : Int) := by
        rw [hft, List.length_append, IntWalk.i64_in _ (by rw [hft, List.length_append] at hle; omega)]; omega
      have x2 : IntKind.i64.wrap ((i : Int) + 1) = (i : Int) + 1 := IntWalk.i64_in _ (by omega)
      obtain ⟨a1, ha1⟩ : ∃ a1, (ls.take i).flatten.length = a1 := ⟨_, rfl⟩
      obtain ⟨a2, ha2⟩ : ∃ a2, (ls[i]?.getD []).length = a2 := ⟨_, rfl⟩
      obtain ⟨a3, ha3⟩ : ∃ a3, (ls.take (i + 1)).flatten.length = a3 := ⟨_, rfl⟩
      rw [ha1, ha2, ha3] at x1
      rw [ha2] at hu
      rw [ha1]
      have H3 := Lib.hid ha3
      clear hft hle hsb ha1 ha2 ha3
      go_wp2
      go_round
      case rel => exact ⟨i + 1, by go_num, by omega, by rw [H3.out]⟩
      case measure => simp [intOf]; omega
    · obtain rfl : i = ls.length := by omega
      rw [List.take_length, HL.out]
      go_wp2_with fail
      refine (grow_any L.length h0 (by omega) w).mono ?_
      rintro e w1 ⟨b0, rfl, ho, hb⟩
      have HO := Lib.hid ho
      have HB := Lib.hid hb
      clear ho hb
      rw [hB0] at HO HB
      go_wp2
      go_loopw [6, 27] (fun b q wr => ∃ i : Nat, (q = .int .i64 (i : Int) ∧ i ≤ ls.length) ∧ OB wr B0 b ((ls.take i).flatten) ∧ Mine B0 w wr) (fun _ q _ => ls.length - (intOf q).toNat)
      case atStart => exact ⟨0, ⟨rfl, by omega⟩, HO.out, ⟨by have := HB.out.size; omega, HB.out⟩⟩
      case round =>
        clear HO HB
        obtain ⟨i, ⟨rfl, hil⟩, hown, hm⟩ := hrel
        by_cases hlt : i < ls.length
        · obtain ⟨g, o, rfl, hcl⟩ := Hcell.out (by omega)
          obtain ⟨u, hu, hsb⟩ := hcl i hlt
          have hb := hm.bel
          have hu1 : wr.cell? ⟨g, o + i, none⟩ = some u := (hb.cell (p := ⟨g, o + i, none⟩) (by rw [← hB0]; exact World.block_lt_of_cell? w _ hu)).trans hu
          have hsb1 : SB wr u (ls[i]?.getD []) := hsb.below (by rw [hB0]; exact hb)
          have hft := flatten_take ls i hlt
          have hle := flatten_take_le ls (i + 1)
          rw [HL.out, hft, List.length_append] at hle
          have Hown := Lib.hid hown
          have HM := Lib.hid hm
          have HSB := Lib.hid hsb1
          have Hft := Lib.hid hft
          obtain ⟨l1, hl1⟩ : ∃ l1, (ls.take i).flatten = l1 := ⟨_, rfl⟩
          obtain ⟨l2, hl2⟩ : ∃ l2, ls[i]?.getD [] = l2 := ⟨_, rfl⟩
          rw [hl1] at Hown
          rw [hl2] at HSB
          rw [hl1, hl2] at Hft hle
          clear hcl hu hsb hown hm hb hsb1 hft hl1 hl2
          obtain ⟨An, nn, cn, hun⟩ : ∃ An nn cn, u = .slice An nn cn := by obtain ⟨a, b, e, _⟩ := HSB.out.form; exact ⟨_, _, _, e⟩
          subst hun
          go_wp2_with (at_builtin; refine wpB_append rfl _ _ rfl B0 _ _ l1 l2 rfl Hown.out rfl HSB.out (by omega) HM.out.le ?_)
          intro v' w1 hown' hgrow hbel
          have HO := Lib.hid hown'
          have HM1 := Lib.hid (HM.out.callN hbel (Nat.le_refl B0))
          clear hown' hgrow hbel Hown HM HSB
          go_wp2
          go_roundw
          case rel => exact ⟨i + 1, ⟨by go_num, by omega⟩, by rw [Hft.out]; exact HO.out, HM1.out⟩
          case measure => simp [intOf]; omega
        · obtain rfl : i = ls.length := by omega
          rw [List.take_length, HL.out] at hown
          have HO := Lib.hid hown
          have HB := Lib.hid hm.bel
          clear hown hm
          go_wp2
          go_ret
          exact ⟨_, rfl, by rw [hB0]; exact HO.out, by rw [hB0]; exact HB.out⟩
end Go.Proofs.Ytnepmhdnkcnnmaa

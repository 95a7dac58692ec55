/- append(b, make([]byte, k)...): k noughts behind bytes of the call's own. -/
import Derived.RangeFuncNested
import Derived.RangeFuncBound
import Derived.RangeFuncCalls
import Derived.RangeFuncLeaves
import Derived.Shelf.Abstract
import Derived.Shelf.RegionOpen
import Derived.WalkKit
import Derived.OwnWalkIn
import Derived.TacticsInMore
import Derived.LoopNIn
import Derived.LoopIn
import Derived.Outline
import Derived.Lib.Hide
import Derived.Lib.SliceRun
import Derived.IntWalk
import Derived.WalkLawsBesides
import Derived.WalkSpells
import Derived.Laws.BitsAllLaws
import Derived.Lib.ConvBytes
import Derived.Maps.AppendAt
import Derived.Lib.AppendStr
import Derived.Lib.SlBytesConst
import Derived.Laws.AppendOwnNone
import Derived.Laws.OwnMore
import Derived.Laws.BytesArg
import Derived.Deep.RegionHeld3
import Derived.BigQuiet
import Derived.Deep.RegionLaw
import Derived.Deep.QuietTactic
import Derived.Test.YtkipnhhdlohnfaaProg
import Derived.Lib.AppendZerosOnto
import Derived.Test.YtkipnhhdlohnfaaGen
set_option linter.unusedVariables false
set_option linter.unusedSimpArgs false
namespace Go.Proofs.Ytkipnhhdlohnfaa
open Go Go.RowKit Go.Shelf

theorem zeroCells_one (z : Value) (k : Nat) : Builtin.zeroCells #[z] k = (List.replicate k z).toArray := by
  unfold Builtin.zeroCells
  apply Array.ext'
  simp
  apply List.ext_getElem
  · simp
  · intro i h1 h2
    simp [Nat.mod_one]
theorem enc8_zeros (k : Nat) : enc8 (List.replicate k 0) = List.replicate k (.int .u8 0) := by simp [enc8]
theorem runB_zeros {w : World} (ty : TypeId) (base : Nat) (v : Value) (l : List UInt8) (k : Nat) (hown : OB w base v l) (h0 : 0 < l.length) (hlen : l.length + k ≤ 100000000) (hbase : base ≤ w.heap.size) :
    ∃ v' w', (Builtin.append_ #[22, 3] ty #[v, .int .i64 (k : Int)]).run Try.prog w = .ok v' w' ∧ OB w' base v' (l ++ List.replicate k 0) ∧ w.grownBy w' v.ownBlock ∧ Below base w w' := by
  obtain ⟨i0, hi, hz0, hz1, hz2⟩ := info_parts info5
  have hlt := hown.lt
  have key : ∃ v' w', (Builtin.append_ #[22, 3] ty #[v, .int .i64 (k : Int)]).run Try.prog w = .ok v' w' ∧ OB w' base v' (l ++ List.replicate k 0) ∧ w.grownBy w' v.ownBlock := by
    have hw : IntKind.i64.wrap (k : Int) = k := by rw [IntKind.wrap_i64]; omega
    have hneg : ¬ ((k : Int) < 0) := by omega
    have h48i : ¬ (281474976710656 < (k : Int)) := by omega
    obtain ⟨hl, hcase⟩ := hown
    rcases hcase with ⟨_, h⟩ | ⟨g, cap, cur, rfl, hb, hg, hc, hm, hs, ht⟩
    · omega
    · by_cases hk : k = 0
      · subst hk
        have hw0 : IntKind.i64.wrap 0 = 0 := by decide
        refine ⟨.slice (some ⟨g, 0, none⟩) l.length cap, w, ?_, ?_, ⟨rfl, rfl, rfl, Nat.le_refl _, fun _ _ _ => rfl⟩⟩
        · simp [Builtin.append_, run_underlying Try.underlying22, run_underlying Try.underlying3, sizeOf, typeInfo, zeroValue, hi, hz0, hz1, hz2, asInt, asIntOf, hc, storeCells, go_sem, hw0]
        · rw [List.replicate_zero, List.append_nil]; exact ⟨hl, .inr ⟨g, cap, cur, rfl, hb, hg, hc, hm, hs, ht⟩⟩
      · have hcell : cur.size = cap := by simpa using hs
        have ht' : cur.toList.take l.length = enc8 l := by simpa using ht
        by_cases hroom : l.length + k ≤ cap
        · have hst := run_storeCells_at Try.prog g l.length 5 (List.replicate k (Value.int .u8 0)) 0 cur w hg (by simp; omega) (by intro u hu; rw [(List.mem_replicate.1 hu).2]; rfl)
          simp only [Nat.add_zero, List.length_replicate] at hst
          refine ⟨.slice (some ⟨g, 0, none⟩) (l.length + k) cap, w.setRow g (cur.toList.take l.length ++ List.replicate k (Value.int .u8 0) ++ cur.toList.drop (l.length + k)).toArray, ?_, ?_, ?_⟩
          · simp [Builtin.append_, run_underlying Try.underlying22, run_underlying Try.underlying3, sizeOf, typeInfo, zeroValue, hi, hz0, hz1, hz2, asInt, asIntOf, hw, hneg, h48i, hk, hroom, zeroCells_one, Value.cells, go_sem, hst]
          · have hll : (l ++ List.replicate k 0).length = l.length + k := by simp
            refine ⟨by rw [enc8_len]; simp, .inr ⟨g, cap, _, by rw [hll], hb, setRow_heap w g cur _ 5 _ hg, by omega, hm, ?_, ?_⟩⟩
            · simp; omega
            · rw [ht', Nat.mul_one, hll]
              have e : enc8 (l ++ List.replicate k 0) = enc8 l ++ List.replicate k (Value.int .u8 0) := by rw [enc8_append, enc8_zeros]
              rw [e]
              have hlen' : (enc8 l ++ List.replicate k (Value.int .u8 0)).length = l.length + k := by simp [enc8_len]
              rw [← hlen']
              exact List.take_left
          · exact ⟨rfl, rfl, rfl, by simp, fun j _ hj => setRow_other w g j _ (fun e => hj (by simp [Value.ownBlock, e]))⟩
        · have hold : (Builtin.firstCells i0.size l.length (.slice (some ⟨g, 0, none⟩) l.length cap)).run Try.prog w.drew = .ok (enc8 l).toArray w.drew := by
            rw [hz1]
            exact run_firstCells_some w.drew 1 l.length ⟨g, 0, none⟩ l.length cap (enc8 l) (by simp [enc8_len]) (fun j u hj => by
              have hadd : (⟨g, 0, none⟩ : Addr).add j = ⟨g, j, none⟩ := by unfold Addr.add; split <;> simp_all
              rw [hadd]
              have := cell_of_row w g j cur 5 (0, 0) hg
              show w.cell? ⟨g, j, none⟩ = some u
              rw [this]
              rw [← ht', List.getElem?_take] at hj
              split at hj
              · simpa using hj
              · cases hj)
          have hr := Lib.run_append_grow_zeros (P := Try.prog) w 22 3 ty 5 i0 (.int .u8 0) .i64 .i64 Try.underlying22 Try.underlying3 hi hz0 (some ⟨g, 0, none⟩) l.length cap (enc8 l) hold k (by omega) (by omega) (by omega) (by omega) (by rw [hz2]; omega) (by rw [hz2]; exact growslice_fits (by omega) (by omega))
          have hge := grownCap_ge w (l.length + k) cap 5
          have hcm : grownCap w (l.length + k) cap 5 ≤ maxLen := grownCap_le_maxLen w _ _ _ (by unfold maxLen; omega)
          have hll : (l ++ List.replicate k 0).length = l.length + k := by simp
          refine ⟨_, _, hr, ⟨by rw [enc8_len]; simp, .inr ⟨w.heap.size, _, _, by rw [hll], hbase, heap_alloc_new w.drew _, by rw [hll]; exact hge, hcm, ?_, ?_⟩⟩, ⟨rfl, rfl, rfl, by simp, fun j hj _ => heap_alloc_old w.drew _ j hj⟩⟩
          · simp only [Value.cells, zeroCells_one, Array.size_append, List.size_toArray, enc8_len, List.length_replicate]
            omega
          · have e : enc8 (l ++ List.replicate k 0) = enc8 l ++ List.replicate k (Value.int .u8 0) := by rw [enc8_append, enc8_zeros]
            rw [e, hll, Nat.mul_one]
            simp only [Value.cells, zeroCells_one, Array.toList_append]
            have hlen' : (enc8 l ++ List.replicate k (Value.int .u8 0)).length = l.length + k := by simp [enc8_len]
            rw [← hlen']
            exact List.take_left
  obtain ⟨v', w', h1, h2, h3⟩ := key
  exact ⟨v', w', h1, h2, h3, (Below.refl base w).grown h3 hbase (fun j hj => (hlt j hj).1)⟩
end Go.Proofs.Ytkipnhhdlohnfaa

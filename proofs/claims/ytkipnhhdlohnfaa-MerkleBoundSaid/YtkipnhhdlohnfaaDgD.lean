/- The rounds' numbers, and where all begins: arrays that are filled. -/
import Derived.RangeFuncNested
import Derived.RangeFuncBound
import Derived.RangeFuncCalls
import Derived.RangeFuncLeaves
import Derived.Shelf.Abstract
import Derived.Shelf.RegionOpen
import Derived.WalkKit
import Derived.OwnWalkIn
import Derived.TacticsInMore
import Derived.LoopNIn
import Derived.LoopIn
import Derived.Outline
import Derived.Lib.Hide
import Derived.Lib.SliceRun
import Derived.IntWalk
import Derived.WalkLawsBesides
import Derived.WalkSpells
import Derived.Laws.BitsAllLaws
import Derived.Lib.ConvBytes
import Derived.Maps.AppendAt
import Derived.Lib.AppendStr
import Derived.Lib.SlBytesConst
import Derived.Laws.AppendOwnNone
import Derived.Laws.OwnMore
import Derived.Laws.BytesArg
import Derived.Deep.RegionHeld3
import Derived.BigQuiet
import Derived.Deep.RegionLaw
import Derived.Deep.QuietTactic
import Derived.Test.YtkipnhhdlohnfaaProg
import Derived.Deep.AppendLies
import Derived.Test.YtkipnhhdlohnfaaDgC
set_option linter.unusedVariables false
set_option linter.unusedSimpArgs false
namespace Go.Proofs.Ytkipnhhdlohnfaa
open Go Go.RowKit Go.Shelf

/-- a list of words that is filled up to i, noughts behind -/
def part (L : List (BitVec 32)) (i : Nat) : List (BitVec 32) := L.take i ++ List.replicate (L.length - i) 0
theorem part_length (L : List (BitVec 32)) (i : Nat) (h : i ≤ L.length) : (part L i).length = L.length := by simp [part]; omega
theorem part_zero (L : List (BitVec 32)) : part L 0 = List.replicate L.length 0 := by simp [part]
theorem part_all (L : List (BitVec 32)) : part L L.length = L := by simp [part]
theorem part_set (L : List (BitVec 32)) (i : Nat) (h : i < L.length) : (part L i).set i (gw L i) = part L (i + 1) := by
  unfold part gw
  rw [List.set_append_right _ _ (by simp; omega)]
  have e : L.length - i = (L.length - (i + 1)) + 1 := by omega
  have e2 : i - (L.take i).length = 0 := by simp; omega
  rw [e, e2, List.replicate_succ, List.set_cons_zero, List.take_succ_eq_append_getElem h, List.append_assoc, List.getElem?_eq_getElem h]
  rfl
theorem encW_set (l : List (BitVec 32)) (i : Nat) (x : BitVec 32) : (encW l).set i (.int .u32 (x.toNat : Int)) = encW (l.set i x) := by
  unfold encW; rw [List.map_set]
theorem encW_one (l : List (BitVec 32)) : (encW l).toArray.all (·.oneCell') = true := by
  rw [Array.all_eq_true_iff_forall_mem]
  intro x hx
  simp [encW] at hx
  obtain ⟨a, _, rfl⟩ := hx
  rfl

theorem Row.setRow {W : World} {b : Nat} {t : TypeId} {l : List Value} (h : Row W b t l) (m : List Value) : Row (W.setRow b m.toArray) b t m := setRow_heap W b _ _ t _ h
theorem Row.setRow_ne {W : World} {b g : Nat} {t : TypeId} {l : List Value} (h : Row W b t l) (cs : Array Value) (hg : b ≠ g) : Row (W.setRow g cs) b t l := by
  unfold Row; rw [setRow_other W g b cs hg]; exact h
theorem below_setRow {n g : Nat} {w W : World} (h : Below n w W) (hg : n ≤ g) (cs : Array Value) : Below n w (W.setRow g cs) :=
  ⟨h.os, h.tape, h.output, by rw [setRow_size]; exact h.size, fun k hk => by rw [setRow_other W g k cs (by omega)]; exact h.block k hk⟩
theorem below_setCell {n : Nat} {w W : World} (h : Below n w W) (a : Addr) (hg : n ≤ a.block) (v : Value) : Below n w (W.setCell a v) := h.setCell hg v
/-- a whole array is read -/
theorem Row.load {w : World} {ops : Array Oper} {rest : List Oper} {o : Oper} {a : Act} {Q : Exit → Act → World → Prop} {g : Nat} {t : TypeId} {l : List Value} (hr : Row w g t l) (hgd : o.guard = none) (ty : TypeId) (x : Operand) (ho : o.op = .load ty x)
    (hx : a.eval x = .pointer (some ⟨g, 0, none⟩)) (n : Nat) (e : TypeId) (hu : Try.prog.underlying ty = some (.array n e)) (hi : (Try.prog.info? ty).map (·.size) = some l.length)
    (h : wpList Try.prog ops Q rest (a.put o.dst (.agg l.toArray)) w) : wpList Try.prog ops Q (o :: rest) a w :=
  wpList_load_row hgd ty x ho g hx t l.toArray _ _ hr hu rfl (by simpa using hi) h
/-- a whole array is written -/
theorem Row.store {w : World} {ops : Array Oper} {rest : List Oper} {o : Oper} {a : Act} {Q : Exit → Act → World → Prop} {g : Nat} {t : TypeId} {l m : List Value} (hr : Row w g t l) (hgd : o.guard = none) (ty : TypeId) (x y : Operand) (ho : o.op = .store ty x y)
    (hx : a.eval x = .pointer (some ⟨g, 0, none⟩)) (hy : a.eval y = .agg m.toArray) (hi : (Try.prog.info? ty).map (·.size) = some m.length) (hl : l.length = m.length) (h1 : m.toArray.all (·.oneCell') = true)
    (h : wpList Try.prog ops Q rest (a.put o.dst undef) (w.setRow g m.toArray)) : wpList Try.prog ops Q (o :: rest) a w :=
  wpList_store_row hgd ty x y ho g m.toArray hx hy t l.toArray hr (by simpa using hi) (by simpa using hl) h1 h
/-- a whole array is handed back -/
theorem Row.result {w : World} {fn : Func} {p : Tmp} {ty : TypeId} {g : Nat} {t : TypeId} {l : List Value} (hr : Row w g t l) (h : fn.results = #[.cell p ty]) (tmps : Array Value) (n : Nat) (e : TypeId)
    (hp : tmps.getD p undef = .pointer (some ⟨g, 0, none⟩)) (hu : Try.prog.underlying ty = some (.array n e)) (hi : (Try.prog.info? ty).map (·.size) = some l.length) :
    (results fn tmps).run Try.prog w = .ok (.agg l.toArray) w :=
  results_cell_row h tmps w g t l.toArray _ _ hp hr hu rfl (by simpa using hi)

def KW : List (BitVec 32) := KN.map (BitVec.ofNat 32)
def SW : List (BitVec 32) := BN.map (BitVec.ofNat 32)
theorem KW_length : KW.length = 64 := by decide +kernel
theorem SW_length : SW.length = 8 := by decide +kernel
theorem SW_s0 : SW = s0.list := by decide +kernel
theorem KW_get (t : Nat) : gw KW t = kt t := by
  unfold gw KW kt
  rw [List.getElem?_map]
  cases KN[t]? <;> rfl
theorem fr_K : (PN.take 64).map (fun p => fr (cubeN p) 36 % 4294967296) = KW.map (·.toNat) := by rw [show PN.take 64 = PN by decide +kernel, fr_cubes]; decide +kernel
theorem fr_S : (PN.take 8).map (fun p => fr (squareN p) 36 % 4294967296) = SW.map (·.toNat) := by rw [fr_squares]; decide +kernel
theorem PN_lt : ∀ p ∈ PN, p < 1000 := by decide +kernel
theorem map_at {α β : Type} [Inhabited α] [Inhabited β] {f : α → Nat} {g : β → Nat} {l : List α} {m : List β} (h : l.map f = m.map g) (i : Nat) (hi : i < l.length) (hj : i < m.length) : f l[i] = g m[i] := by
  have := congrArg (fun x => x[i]?) h
  simpa [hi, hj] using this

set_option maxRecDepth 100000 in
set_option maxHeartbeats 1000000 in
theorem start_any (w : World) :
    Calls Try.prog 43 #[] w fun e w' => e = .returned (.agg (encW SW).toArray) ∧ Below w.heap.size w w' := by
  go_enter Try.func43, Try.ntmps43
  go_wp2_with fail
  have r0 : Row (w.alloc (.cells #[.int .u32 0, .int .u32 0, .int .u32 0, .int .u32 0, .int .u32 0, .int .u32 0, .int .u32 0, .int .u32 0] 63)) w.heap.size 63 (encW (part SW 0)) := by
    rw [part_zero, SW_length]; exact Row.new w _ _
  have r0' := r0.alloc (.cells #[.int .u32 0, .int .u32 0, .int .u32 0, .int .u32 0, .int .u32 0, .int .u32 0, .int .u32 0, .int .u32 0] 63)
  have r1 : Row ((w.alloc (.cells #[.int .u32 0, .int .u32 0, .int .u32 0, .int .u32 0, .int .u32 0, .int .u32 0, .int .u32 0, .int .u32 0] 63)).alloc (.cells #[.int .u32 0, .int .u32 0, .int .u32 0, .int .u32 0, .int .u32 0, .int .u32 0, .int .u32 0, .int .u32 0] 63)) (w.alloc (.cells #[.int .u32 0, .int .u32 0, .int .u32 0, .int .u32 0, .int .u32 0, .int .u32 0, .int .u32 0, .int .u32 0] 63)).heap.size 63 (encW (part SW 0)) := by
    rw [part_zero, SW_length]; exact Row.new _ _ _
  have hs1 : (w.alloc (.cells #[.int .u32 0, .int .u32 0, .int .u32 0, .int .u32 0, .int .u32 0, .int .u32 0, .int .u32 0, .int .u32 0] 63)).heap.size = w.heap.size + 1 := by show (w.heap.push _).size = _; simp
  have hb1 : Below w.heap.size w ((w.alloc (.cells #[.int .u32 0, .int .u32 0, .int .u32 0, .int .u32 0, .int .u32 0, .int .u32 0, .int .u32 0, .int .u32 0] 63)).alloc (.cells #[.int .u32 0, .int .u32 0, .int .u32 0, .int .u32 0, .int .u32 0, .int .u32 0, .int .u32 0, .int .u32 0] 63)) := ((Below.refl _ w).alloc (Nat.le_refl _) _).alloc (by omega) _
  rw [hs1] at r1
  obtain ⟨B0, hB0⟩ : ∃ B0, w.heap.size = B0 := ⟨_, rfl⟩
  obtain ⟨wa, hwa⟩ : ∃ wa, (w.alloc (.cells #[.int .u32 0, .int .u32 0, .int .u32 0, .int .u32 0, .int .u32 0, .int .u32 0, .int .u32 0, .int .u32 0] 63)).alloc (.cells #[.int .u32 0, .int .u32 0, .int .u32 0, .int .u32 0, .int .u32 0, .int .u32 0, .int .u32 0, .int .u32 0] 63) = wa := ⟨_, rfl⟩
  rw [hwa] at r0' r1 hb1 ⊢
  rw [hB0] at r0' r1 hb1 ⊢
  have R0 := Lib.hid r0'
  have R1 := Lib.hid r1
  have HB1 := Lib.hid hb1
  clear r0 r0' r1 hs1 hb1 hwa
  refine (primes_any 8 (by omega) wa).mono ?_
  rintro e wb ⟨v, rfl, hown, hbb⟩
  have hpl : (PN.take 8).length = 8 := by decide +kernel
  have hown1 : wb.ownsRow wa.heap.size 53 1 v (encU (PN.take 8)).length (encU (PN.take 8)) := hown
  obtain ⟨g, c, rfl, -⟩ := World.ownsRow.form hown1 (by rw [encU_length, hpl]; omega)
  have hgB : B0 + 1 < g := by have := (hown1.lt g rfl).1; have := R1.out.lt; omega
  obtain ⟨A, c', he, ⟨hc1, hc2⟩, hcell0⟩ := hown.reads
  cases he
  rw [encU_length, hpl] at hc1 ⊢
  have hcell : ∀ i, i < 8 → wb.cell? ⟨g, i, none⟩ = some (.int .u64 (((PN.take 8)[i]?.getD 0 : Nat) : Int)) := by
    intro i hi
    obtain ⟨g', o, e, hc⟩ := hcell0 i (by rw [encU_length, hpl]; exact hi)
    cases e
    rw [encU_get _ _ (by rw [hpl]; exact hi), Nat.zero_add] at hc
    exact hc
  have hb2 := HB1.out.trans (hbb.mono (by have := HB1.out.size; omega))
  have R0b := Lib.hid (R0.out.below hbb R0.out.lt)
  have R1b := Lib.hid (R1.out.below hbb R1.out.lt)
  have Hc := Lib.hid hcell
  have HB2 := Lib.hid hb2
  clear hown hown1 hbb hcell hcell0 hpl hb2 R0 R1 HB1
  go_wp2
  go_loopw [6] (fun q wr => ∃ i : Nat, q = .int .i64 (i : Int) ∧ i ≤ 8 ∧ Row wr B0 63 (encW (part SW 0)) ∧ Row wr (B0 + 1) 63 (encW (part SW i)) ∧ Hid (∀ i, i < 8 → wr.cell? ⟨g, i, none⟩ = some (.int .u64 (((PN.take 8)[i]?.getD 0 : Nat) : Int))) ∧ Below B0 w wr) (fun q _ => 8 - (intOf q).toNat)
  case atStart => exact ⟨0, rfl, by omega, R0b.out, R1b.out, Hc.out, HB2.out⟩
  case round =>
    clear R0b R1b Hc HB2
    obtain ⟨i, rfl, hi, hr0, hr1, hc, hb⟩ := hrel
    have R0 := Lib.hid hr0
    have R1 := Lib.hid hr1
    have HB := Lib.hid hb
    clear hr0 hr1 hb
    by_cases hlt : i < 8
    · have k0 := hc.out i hlt
      have hpi : i < (PN.take 8).length := by rw [show (PN.take 8).length = 8 by decide +kernel]; exact hlt
      have hLi : i < SW.length := by rw [SW_length]; exact hlt
      have hfr : (fr (squareN ((PN.take 8)[i]?.getD 0)) 36 % 4294967296 : Nat) = (gw SW i).toNat := by
        have e := map_at fr_S i hpi hLi
        unfold gw
        rw [List.getElem?_eq_getElem hpi, List.getElem?_eq_getElem hLi]
        exact e
      have hp1000 : (PN.take 8)[i]?.getD 0 < 1000 := by
        rw [List.getElem?_eq_getElem hpi]
        exact PN_lt _ (List.mem_of_mem_take (List.getElem_mem _))
      obtain ⟨p, hpe⟩ : ∃ p, (PN.take 8)[i]?.getD 0 = p := ⟨_, rfl⟩
      rw [hpe] at k0 hfr hp1000
      have q0 : wr.cell? ⟨B0 + 1, i, none⟩ = some (.int .u32 ((gw (part SW i) i).toNat : Int)) := by
        rw [R1.out.cell i, encW_get _ _ (by rw [part_length _ _ (by omega)]; exact hLi)]
      have q1 : wr.frozen? ⟨B0 + 1, i, none⟩ = false := R1.out.frozen i
      have Hfr := Lib.hid hfr
      have HLi := Lib.hid hLi
      clear hpe hfr hpi hLi
      go_wp2_with fail
      refine (fraction_any 62 p (squareN p) (enters_of Try.func62 (by kernel_rfl) rfl) (fun y w hy => square_any y p hy  w) wr).mono ?_
      rintro e w1 ⟨rfl, hw1⟩
      subst hw1
      rw [Hfr.out]
      have R1' : Row (w1.setCell ⟨B0 + 1, i, none⟩ (.int .u32 ((gw SW i).toNat : Int))) (B0 + 1) 63 (encW (part SW (i + 1))) := by
        have := R1.out.set i (.int .u32 ((gw SW i).toNat : Int))
        rwa [encW_set, part_set _ _ HLi.out] at this
      have R0' := R0.out.other ⟨B0 + 1, i, none⟩ (.int .u32 ((gw SW i).toNat : Int)) (by simp)
      have hb' := below_setCell HB.out ⟨B0 + 1, i, none⟩ (by simp) (.int .u32 ((gw SW i).toNat : Int))
      have hc' : Hid (∀ j, j < 8 → (w1.setCell ⟨B0 + 1, i, none⟩ (.int .u32 ((gw SW i).toNat : Int))).cell? ⟨g, j, none⟩ = some (.int .u64 (((PN.take 8)[j]?.getD 0 : Nat) : Int))) := by
        intro j hj
        rw [World.cell?_setCell_other _ _ _ _ (by simp <;> omega)]
        exact hc.out j hj
      have R0s := Lib.hid R0'
      have R1s := Lib.hid R1'
      have HBs := Lib.hid hb'
      clear R0' R1' hb' R0 R1 HB hc Hfr HLi k0
      go_wp2
      go_roundw
      case rel => exact ⟨i + 1, by go_num, by omega, R0s.out, R1s.out, hc', HBs.out⟩
      case measure => simp [intOf]; omega
    · obtain rfl : i = 8 := by omega
      have r1 : Row wr (B0 + 1) 63 (encW SW) := by
        have := R1.out
        have e : part SW 8 = SW := by have := part_all SW; rwa [SW_length] at this
        rwa [e] at this
      have R1s := Lib.hid r1
      have RR := Lib.hid (R0.out.setRow (encW SW))
      have hbz := below_setRow HB.out (Nat.le_refl B0) (encW SW).toArray
      have HBz := Lib.hid hbz
      clear r1 hbz R1 HB hc
      go_wp2_with (first | (refine R1s.out.load rfl 63 (.tmp 1) rfl rfl _ _ Try.underlying63 (by rw [encW_length, SW_length]; kernel_rfl) ?_) | (refine R0.out.store (m := encW SW) rfl 63 (.tmp 0) (.tmp 16) rfl rfl rfl (by rw [encW_length, SW_length]; kernel_rfl) (by rw [encW_length, encW_length, part_length _ _ (Nat.zero_le _)]) (encW_one _) ?_))
      refine bodyPost_ret (v := .agg (encW SW).toArray) (RR.out.result Try.results43 _ _ _ rfl Try.underlying63 (by rw [encW_length, SW_length]; kernel_rfl)) rfl ?_
      exact ⟨rfl, by rw [hB0]; exact HBz.out⟩

set_option maxRecDepth 100000 in
set_option maxHeartbeats 1000000 in
theorem constants_any (w : World) :
    Calls Try.prog 42 #[] w fun e w' => e = .returned (.agg (encW KW).toArray) ∧ Below w.heap.size w w' := by
  go_enter Try.func42, Try.ntmps42
  go_wp2_with fail
  have r0 : Row (w.alloc (.cells #[.int .u32 0, .int .u32 0, .int .u32 0, .int .u32 0, .int .u32 0, .int .u32 0, .int .u32 0, .int .u32 0, .int .u32 0, .int .u32 0, .int .u32 0, .int .u32 0, .int .u32 0, .int .u32 0, .int .u32 0, .int .u32 0, .int .u32 0, .int .u32 0, .int .u32 0, .int .u32 0, .int .u32 0, .int .u32 0, .int .u32 0, .int .u32 0, .int .u32 0, .int .u32 0, .int .u32 0, .int .u32 0, .int .u32 0, .int .u32 0, .int .u32 0, .int .u32 0, .int .u32 0, .int .u32 0, .int .u32 0, .int .u32 0, .int .u32 0, .int .u32 0, .int .u32 0, .int .u32 0, .int .u32 0, .int .u32 0, .int .u32 0, .int .u32 0, .int .u32 0, .int .u32 0, .int .u32 0, .int .u32 0, .int .u32 0, .int .u32 0, .int .u32 0, .int .u32 0, .int .u32 0, .int .u32 0, .int .u32 0, .int .u32 0, .int .u32 0, .int .u32 0, .int .u32 0, .int .u32 0, .int .u32 0, .int .u32 0, .int .u32 0, .int .u32 0] 60)) w.heap.size 60 (encW (part KW 0)) := by
    rw [part_zero, KW_length]; exact Row.new w _ _
  have r0' := r0.alloc (.cells #[.int .u32 0, .int .u32 0, .int .u32 0, .int .u32 0, .int .u32 0, .int .u32 0, .int .u32 0, .int .u32 0, .int .u32 0, .int .u32 0, .int .u32 0, .int .u32 0, .int .u32 0, .int .u32 0, .int .u32 0, .int .u32 0, .int .u32 0, .int .u32 0, .int .u32 0, .int .u32 0, .int .u32 0, .int .u32 0, .int .u32 0, .int .u32 0, .int .u32 0, .int .u32 0, .int .u32 0, .int .u32 0, .int .u32 0, .int .u32 0, .int .u32 0, .int .u32 0, .int .u32 0, .int .u32 0, .int .u32 0, .int .u32 0, .int .u32 0, .int .u32 0, .int .u32 0, .int .u32 0, .int .u32 0, .int .u32 0, .int .u32 0, .int .u32 0, .int .u32 0, .int .u32 0, .int .u32 0, .int .u32 0, .int .u32 0, .int .u32 0, .int .u32 0, .int .u32 0, .int .u32 0, .int .u32 0, .int .u32 0, .int .u32 0, .int .u32 0, .int .u32 0, .int .u32 0, .int .u32 0, .int .u32 0, .int .u32 0, .int .u32 0, .int .u32 0] 60)
  have r1 : Row ((w.alloc (.cells #[.int .u32 0, .int .u32 0, .int .u32 0, .int .u32 0, .int .u32 0, .int .u32 0, .int .u32 0, .int .u32 0, .int .u32 0, .int .u32 0, .int .u32 0, .int .u32 0, .int .u32 0, .int .u32 0, .int .u32 0, .int .u32 0, .int .u32 0, .int .u32 0, .int .u32 0, .int .u32 0, .int .u32 0, .int .u32 0, .int .u32 0, .int .u32 0, .int .u32 0, .int .u32 0, .int .u32 0, .int .u32 0, .int .u32 0, .int .u32 0, .int .u32 0, .int .u32 0, .int .u32 0, .int .u32 0, .int .u32 0, .int .u32 0, .int .u32 0, .int .u32 0, .int .u32 0, .int .u32 0, .int .u32 0, .int .u32 0, .int .u32 0, .int .u32 0, .int .u32 0, .int .u32 0, .int .u32 0, .int .u32 0, .int .u32 0, .int .u32 0, .int .u32 0, .int .u32 0, .int .u32 0, .int .u32 0, .int .u32 0, .int .u32 0, .int .u32 0, .int .u32 0, .int .u32 0, .int .u32 0, .int .u32 0, .int .u32 0, .int .u32 0, .int .u32 0] 60)).alloc (.cells #[.int .u32 0, .int .u32 0, .int .u32 0, .int .u32 0, .int .u32 0, .int .u32 0, .int .u32 0, .int .u32 0, .int .u32 0, .int .u32 0, .int .u32 0, .int .u32 0, .int .u32 0, .int .u32 0, .int .u32 0, .int .u32 0, .int .u32 0, .int .u32 0, .int .u32 0, .int .u32 0, .int .u32 0, .int .u32 0, .int .u32 0, .int .u32 0, .int .u32 0, .int .u32 0, .int .u32 0, .int .u32 0, .int .u32 0, .int .u32 0, .int .u32 0, .int .u32 0, .int .u32 0, .int .u32 0, .int .u32 0, .int .u32 0, .int .u32 0, .int .u32 0, .int .u32 0, .int .u32 0, .int .u32 0, .int .u32 0, .int .u32 0, .int .u32 0, .int .u32 0, .int .u32 0, .int .u32 0, .int .u32 0, .int .u32 0, .int .u32 0, .int .u32 0, .int .u32 0, .int .u32 0, .int .u32 0, .int .u32 0, .int .u32 0, .int .u32 0, .int .u32 0, .int .u32 0, .int .u32 0, .int .u32 0, .int .u32 0, .int .u32 0, .int .u32 0] 60)) (w.alloc (.cells #[.int .u32 0, .int .u32 0, .int .u32 0, .int .u32 0, .int .u32 0, .int .u32 0, .int .u32 0, .int .u32 0, .int .u32 0, .int .u32 0, .int .u32 0, .int .u32 0, .int .u32 0, .int .u32 0, .int .u32 0, .int .u32 0, .int .u32 0, .int .u32 0, .int .u32 0, .int .u32 0, .int .u32 0, .int .u32 0, .int .u32 0, .int .u32 0, .int .u32 0, .int .u32 0, .int .u32 0, .int .u32 0, .int .u32 0, .int .u32 0, .int .u32 0, .int .u32 0, .int .u32 0, .int .u32 0, .int .u32 0, .int .u32 0, .int .u32 0, .int .u32 0, .int .u32 0, .int .u32 0, .int .u32 0, .int .u32 0, .int .u32 0, .int .u32 0, .int .u32 0, .int .u32 0, .int .u32 0, .int .u32 0, .int .u32 0, .int .u32 0, .int .u32 0, .int .u32 0, .int .u32 0, .int .u32 0, .int .u32 0, .int .u32 0, .int .u32 0, .int .u32 0, .int .u32 0, .int .u32 0, .int .u32 0, .int .u32 0, .int .u32 0, .int .u32 0] 60)).heap.size 60 (encW (part KW 0)) := by
    rw [part_zero, KW_length]; exact Row.new _ _ _
  have hs1 : (w.alloc (.cells #[.int .u32 0, .int .u32 0, .int .u32 0, .int .u32 0, .int .u32 0, .int .u32 0, .int .u32 0, .int .u32 0, .int .u32 0, .int .u32 0, .int .u32 0, .int .u32 0, .int .u32 0, .int .u32 0, .int .u32 0, .int .u32 0, .int .u32 0, .int .u32 0, .int .u32 0, .int .u32 0, .int .u32 0, .int .u32 0, .int .u32 0, .int .u32 0, .int .u32 0, .int .u32 0, .int .u32 0, .int .u32 0, .int .u32 0, .int .u32 0, .int .u32 0, .int .u32 0, .int .u32 0, .int .u32 0, .int .u32 0, .int .u32 0, .int .u32 0, .int .u32 0, .int .u32 0, .int .u32 0, .int .u32 0, .int .u32 0, .int .u32 0, .int .u32 0, .int .u32 0, .int .u32 0, .int .u32 0, .int .u32 0, .int .u32 0, .int .u32 0, .int .u32 0, .int .u32 0, .int .u32 0, .int .u32 0, .int .u32 0, .int .u32 0, .int .u32 0, .int .u32 0, .int .u32 0, .int .u32 0, .int .u32 0, .int .u32 0, .int .u32 0, .int .u32 0] 60)).heap.size = w.heap.size + 1 := by show (w.heap.push _).size = _; simp
  have hb1 : Below w.heap.size w ((w.alloc (.cells #[.int .u32 0, .int .u32 0, .int .u32 0, .int .u32 0, .int .u32 0, .int .u32 0, .int .u32 0, .int .u32 0, .int .u32 0, .int .u32 0, .int .u32 0, .int .u32 0, .int .u32 0, .int .u32 0, .int .u32 0, .int .u32 0, .int .u32 0, .int .u32 0, .int .u32 0, .int .u32 0, .int .u32 0, .int .u32 0, .int .u32 0, .int .u32 0, .int .u32 0, .int .u32 0, .int .u32 0, .int .u32 0, .int .u32 0, .int .u32 0, .int .u32 0, .int .u32 0, .int .u32 0, .int .u32 0, .int .u32 0, .int .u32 0, .int .u32 0, .int .u32 0, .int .u32 0, .int .u32 0, .int .u32 0, .int .u32 0, .int .u32 0, .int .u32 0, .int .u32 0, .int .u32 0, .int .u32 0, .int .u32 0, .int .u32 0, .int .u32 0, .int .u32 0, .int .u32 0, .int .u32 0, .int .u32 0, .int .u32 0, .int .u32 0, .int .u32 0, .int .u32 0, .int .u32 0, .int .u32 0, .int .u32 0, .int .u32 0, .int .u32 0, .int .u32 0] 60)).alloc (.cells #[.int .u32 0, .int .u32 0, .int .u32 0, .int .u32 0, .int .u32 0, .int .u32 0, .int .u32 0, .int .u32 0, .int .u32 0, .int .u32 0, .int .u32 0, .int .u32 0, .int .u32 0, .int .u32 0, .int .u32 0, .int .u32 0, .int .u32 0, .int .u32 0, .int .u32 0, .int .u32 0, .int .u32 0, .int .u32 0, .int .u32 0, .int .u32 0, .int .u32 0, .int .u32 0, .int .u32 0, .int .u32 0, .int .u32 0, .int .u32 0, .int .u32 0, .int .u32 0, .int .u32 0, .int .u32 0, .int .u32 0, .int .u32 0, .int .u32 0, .int .u32 0, .int .u32 0, .int .u32 0, .int .u32 0, .int .u32 0, .int .u32 0, .int .u32 0, .int .u32 0, .int .u32 0, .int .u32 0, .int .u32 0, .int .u32 0, .int .u32 0, .int .u32 0, .int .u32 0, .int .u32 0, .int .u32 0, .int .u32 0, .int .u32 0, .int .u32 0, .int .u32 0, .int .u32 0, .int .u32 0, .int .u32 0, .int .u32 0, .int .u32 0, .int .u32 0] 60)) := ((Below.refl _ w).alloc (Nat.le_refl _) _).alloc (by omega) _
  rw [hs1] at r1
  obtain ⟨B0, hB0⟩ : ∃ B0, w.heap.size = B0 := ⟨_, rfl⟩
  obtain ⟨wa, hwa⟩ : ∃ wa, (w.alloc (.cells #[.int .u32 0, .int .u32 0, .int .u32 0, .int .u32 0, .int .u32 0, .int .u32 0, .int .u32 0, .int .u32 0, .int .u32 0, .int .u32 0, .int .u32 0, .int .u32 0, .int .u32 0, .int .u32 0, .int .u32 0, .int .u32 0, .int .u32 0, .int .u32 0, .int .u32 0, .int .u32 0, .int .u32 0, .int .u32 0, .int .u32 0, .int .u32 0, .int .u32 0, .int .u32 0, .int .u32 0, .int .u32 0, .int .u32 0, .int .u32 0, .int .u32 0, .int .u32 0, .int .u32 0, .int .u32 0, .int .u32 0, .int .u32 0, .int .u32 0, .int .u32 0, .int .u32 0, .int .u32 0, .int .u32 0, .int .u32 0, .int .u32 0, .int .u32 0, .int .u32 0, .int .u32 0, .int .u32 0, .int .u32 0, .int .u32 0, .int .u32 0, .int .u32 0, .int .u32 0, .int .u32 0, .int .u32 0, .int .u32 0, .int .u32 0, .int .u32 0, .int .u32 0, .int .u32 0, .int .u32 0, .int .u32 0, .int .u32 0, .int .u32 0, .int .u32 0] 60)).alloc (.cells #[.int .u32 0, .int .u32 0, .int .u32 0, .int .u32 0, .int .u32 0, .int .u32 0, .int .u32 0, .int .u32 0, .int .u32 0, .int .u32 0, .int .u32 0, .int .u32 0, .int .u32 0, .int .u32 0, .int .u32 0, .int .u32 0, .int .u32 0, .int .u32 0, .int .u32 0, .int .u32 0, .int .u32 0, .int .u32 0, .int .u32 0, .int .u32 0, .int .u32 0, .int .u32 0, .int .u32 0, .int .u32 0, .int .u32 0, .int .u32 0, .int .u32 0, .int .u32 0, .int .u32 0, .int .u32 0, .int .u32 0, .int .u32 0, .int .u32 0, .int .u32 0, .int .u32 0, .int .u32 0, .int .u32 0, .int .u32 0, .int .u32 0, .int .u32 0, .int .u32 0, .int .u32 0, .int .u32 0, .int .u32 0, .int .u32 0, .int .u32 0, .int .u32 0, .int .u32 0, .int .u32 0, .int .u32 0, .int .u32 0, .int .u32 0, .int .u32 0, .int .u32 0, .int .u32 0, .int .u32 0, .int .u32 0, .int .u32 0, .int .u32 0, .int .u32 0] 60) = wa := ⟨_, rfl⟩
  rw [hwa] at r0' r1 hb1 ⊢
  rw [hB0] at r0' r1 hb1 ⊢
  have R0 := Lib.hid r0'
  have R1 := Lib.hid r1
  have HB1 := Lib.hid hb1
  clear r0 r0' r1 hs1 hb1 hwa
  refine (primes_any 64 (by omega) wa).mono ?_
  rintro e wb ⟨v, rfl, hown, hbb⟩
  have hpl : (PN.take 64).length = 64 := by decide +kernel
  have hown1 : wb.ownsRow wa.heap.size 53 1 v (encU (PN.take 64)).length (encU (PN.take 64)) := hown
  obtain ⟨g, c, rfl, -⟩ := World.ownsRow.form hown1 (by rw [encU_length, hpl]; omega)
  have hgB : B0 + 1 < g := by have := (hown1.lt g rfl).1; have := R1.out.lt; omega
  obtain ⟨A, c', he, ⟨hc1, hc2⟩, hcell0⟩ := hown.reads
  cases he
  rw [encU_length, hpl] at hc1 ⊢
  have hcell : ∀ i, i < 64 → wb.cell? ⟨g, i, none⟩ = some (.int .u64 (((PN.take 64)[i]?.getD 0 : Nat) : Int)) := by
    intro i hi
    obtain ⟨g', o, e, hc⟩ := hcell0 i (by rw [encU_length, hpl]; exact hi)
    cases e
    rw [encU_get _ _ (by rw [hpl]; exact hi), Nat.zero_add] at hc
    exact hc
  have hb2 := HB1.out.trans (hbb.mono (by have := HB1.out.size; omega))
  have R0b := Lib.hid (R0.out.below hbb R0.out.lt)
  have R1b := Lib.hid (R1.out.below hbb R1.out.lt)
  have Hc := Lib.hid hcell
  have HB2 := Lib.hid hb2
  clear hown hown1 hbb hcell hcell0 hpl hb2 R0 R1 HB1
  go_wp2
  go_loopw [6] (fun q wr => ∃ i : Nat, q = .int .i64 (i : Int) ∧ i ≤ 64 ∧ Row wr B0 60 (encW (part KW 0)) ∧ Row wr (B0 + 1) 60 (encW (part KW i)) ∧ Hid (∀ i, i < 64 → wr.cell? ⟨g, i, none⟩ = some (.int .u64 (((PN.take 64)[i]?.getD 0 : Nat) : Int))) ∧ Below B0 w wr) (fun q _ => 64 - (intOf q).toNat)
  case atStart => exact ⟨0, rfl, by omega, R0b.out, R1b.out, Hc.out, HB2.out⟩
  case round =>
    clear R0b R1b Hc HB2
    obtain ⟨i, rfl, hi, hr0, hr1, hc, hb⟩ := hrel
    have R0 := Lib.hid hr0
    have R1 := Lib.hid hr1
    have HB := Lib.hid hb
    clear hr0 hr1 hb
    by_cases hlt : i < 64
    · have k0 := hc.out i hlt
      have hpi : i < (PN.take 64).length := by rw [show (PN.take 64).length = 64 by decide +kernel]; exact hlt
      have hLi : i < KW.length := by rw [KW_length]; exact hlt
      have hfr : (fr (cubeN ((PN.take 64)[i]?.getD 0)) 36 % 4294967296 : Nat) = (gw KW i).toNat := by
        have e := map_at fr_K i hpi hLi
        unfold gw
        rw [List.getElem?_eq_getElem hpi, List.getElem?_eq_getElem hLi]
        exact e
      have hp1000 : (PN.take 64)[i]?.getD 0 < 1000 := by
        rw [List.getElem?_eq_getElem hpi]
        exact PN_lt _ (List.mem_of_mem_take (List.getElem_mem _))
      obtain ⟨p, hpe⟩ : ∃ p, (PN.take 64)[i]?.getD 0 = p := ⟨_, rfl⟩
      rw [hpe] at k0 hfr hp1000
      have q0 : wr.cell? ⟨B0 + 1, i, none⟩ = some (.int .u32 ((gw (part KW i) i).toNat : Int)) := by
        rw [R1.out.cell i, encW_get _ _ (by rw [part_length _ _ (by omega)]; exact hLi)]
      have q1 : wr.frozen? ⟨B0 + 1, i, none⟩ = false := R1.out.frozen i
      have Hfr := Lib.hid hfr
      have HLi := Lib.hid hLi
      clear hpe hfr hpi hLi
      go_wp2_with fail
      refine (fraction_any 61 p (cubeN p) (enters_of Try.func61 (by kernel_rfl) rfl) (fun y w hy => cube_any y p hy (by omega) w) wr).mono ?_
      rintro e w1 ⟨rfl, hw1⟩
      subst hw1
      rw [Hfr.out]
      have R1' : Row (w1.setCell ⟨B0 + 1, i, none⟩ (.int .u32 ((gw KW i).toNat : Int))) (B0 + 1) 60 (encW (part KW (i + 1))) := by
        have := R1.out.set i (.int .u32 ((gw KW i).toNat : Int))
        rwa [encW_set, part_set _ _ HLi.out] at this
      have R0' := R0.out.other ⟨B0 + 1, i, none⟩ (.int .u32 ((gw KW i).toNat : Int)) (by simp)
      have hb' := below_setCell HB.out ⟨B0 + 1, i, none⟩ (by simp) (.int .u32 ((gw KW i).toNat : Int))
      have hc' : Hid (∀ j, j < 64 → (w1.setCell ⟨B0 + 1, i, none⟩ (.int .u32 ((gw KW i).toNat : Int))).cell? ⟨g, j, none⟩ = some (.int .u64 (((PN.take 64)[j]?.getD 0 : Nat) : Int))) := by
        intro j hj
        rw [World.cell?_setCell_other _ _ _ _ (by simp <;> omega)]
        exact hc.out j hj
      have R0s := Lib.hid R0'
      have R1s := Lib.hid R1'
      have HBs := Lib.hid hb'
      clear R0' R1' hb' R0 R1 HB hc Hfr HLi k0
      go_wp2
      go_roundw
      case rel => exact ⟨i + 1, by go_num, by omega, R0s.out, R1s.out, hc', HBs.out⟩
      case measure => simp [intOf]; omega
    · obtain rfl : i = 64 := by omega
      have r1 : Row wr (B0 + 1) 60 (encW KW) := by
        have := R1.out
        have e : part KW 64 = KW := by have := part_all KW; rwa [KW_length] at this
        rwa [e] at this
      have R1s := Lib.hid r1
      have RR := Lib.hid (R0.out.setRow (encW KW))
      have hbz := below_setRow HB.out (Nat.le_refl B0) (encW KW).toArray
      have HBz := Lib.hid hbz
      clear r1 hbz R1 HB hc
      go_wp2_with (first | (refine R1s.out.load rfl 60 (.tmp 1) rfl rfl _ _ Try.underlying60 (by rw [encW_length, KW_length]; kernel_rfl) ?_) | (refine R0.out.store (m := encW KW) rfl 60 (.tmp 0) (.tmp 16) rfl rfl rfl (by rw [encW_length, KW_length]; kernel_rfl) (by rw [encW_length, encW_length, part_length _ _ (Nat.zero_le _)]) (encW_one _) ?_))
      refine bodyPost_ret (v := .agg (encW KW).toArray) (RR.out.result Try.results42 _ _ _ rfl Try.underlying60 (by rw [encW_length, KW_length]; kernel_rfl)) rfl ?_
      exact ⟨rfl, by rw [hB0]; exact HBz.out⟩
end Go.Proofs.Ytkipnhhdlohnfaa

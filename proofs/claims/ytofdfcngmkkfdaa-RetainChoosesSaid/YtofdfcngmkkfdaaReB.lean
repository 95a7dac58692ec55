/- Slices of pairs (classes, rules, holds); Find of both, Over of both. -/
import Derived.RangeFuncNested
import Derived.RangeFuncBound
import Derived.RangeFuncCalls
import Derived.RangeFuncLeaves
import Derived.Shelf.Abstract
import Derived.Shelf.RegionOpen
import Derived.WalkKit
import Derived.OwnWalkIn
import Derived.TacticsInMore
import Derived.LoopNIn
import Derived.LoopIn
import Derived.Outline
import Derived.Lib.Hide
import Derived.Lib.SliceRun
import Derived.IntWalk
import Derived.WalkLawsBesides
import Derived.WalkSpells
import Derived.Laws.BitsAllLaws
import Derived.Lib.ConvBytes
import Derived.Maps.AppendAt
import Derived.Lib.AppendStr
import Derived.Lib.SlBytesConst
import Derived.Laws.AppendOwnNone
import Derived.Laws.OwnMore
import Derived.Laws.BytesArg
import Derived.Deep.RegionHeld3
import Derived.BigQuiet
import Derived.Deep.RegionLaw
import Derived.Deep.QuietTactic
import Derived.Lib.OthersKept
import Derived.Test.YtofdfcngmkkfdaaProg
import Derived.Deep.DeepFit
import Derived.ProofKit
import Derived.OpenShut
import Derived.Deep.Slices
import Derived.Deep.SlicePairs
import Derived.SliceStrings
import Derived.Lib.SmallJoins
import Derived.Test.YtofdfcngmkkfdaaReA
set_option linter.unusedVariables false
set_option linter.unusedSimpArgs false
namespace Go.Proofs.Ytofdfcngmkkfdaa
open Go Go.RowKit Go.Shelf

/-- a row of memory that holds these values -/
def Row (W : World) (b : Nat) (t : TypeId) (l : List Value) : Prop := W.heap[b]? = some (.cells l.toArray t (0, 0))
theorem Row.lt {W : World} {b : Nat} {t : TypeId} {l : List Value} (h : Row W b t l) : b < W.heap.size := (Array.getElem?_eq_some_iff.1 h).1
theorem Row.cell {W : World} {b : Nat} {t : TypeId} {l : List Value} (h : Row W b t l) (i : Nat) : W.cell? ⟨b, i, none⟩ = l[i]? := by
  rw [cell_of_row W b i _ t _ h]; simp
theorem Row.frozen {W : World} {b : Nat} {t : TypeId} {l : List Value} (h : Row W b t l) (i : Nat) : W.frozen? ⟨b, i, none⟩ = false := frozen_of_row W b i _ t h
theorem Row.set {W : World} {b : Nat} {t : TypeId} {l : List Value} (h : Row W b t l) (i : Nat) (v : Value) : Row (W.setCell ⟨b, i, none⟩ v) b t (l.set i v) := by
  unfold Row
  rw [heap_setCell_same W b i _ t v h]
  congr 2
  simp
theorem Row.other {W : World} {b : Nat} {t : TypeId} {l : List Value} (h : Row W b t l) (a : Addr) (v : Value) (hb : b ≠ a.block) : Row (W.setCell a v) b t l := by
  unfold Row; rw [heap_setCell_other W a b v hb]; exact h
theorem Row.new (W : World) (c : Array Value) (t : TypeId) : Row (W.alloc (.cells c t)) W.heap.size t c.toList := by
  unfold Row; rw [heap_alloc_new]
theorem Row.alloc {W : World} {b : Nat} {t : TypeId} {l : List Value} (h : Row W b t l) (o : Obj) : Row (W.alloc o) b t l := by
  unfold Row; rw [heap_alloc_old _ _ _ h.lt]; exact h
theorem Row.below {W W' : World} {b n : Nat} {t : TypeId} {l : List Value} (h : Row W b t l) (hb : Below n W W') (hn : b < n) : Row W' b t l := by
  unfold Row; rw [hb.block b hn]; exact h
theorem Row.belowS {W W' : World} {b : Nat} {t : TypeId} {l : List Value} (h : Row W b t l) (hb : Below W.heap.size W W') : Row W' b t l := h.below hb h.lt

/-- A VALUE IS A SLICE THAT READS AS THESE PAIRS (a struct of two cells each). -/
def PV (W : World) (v : Value) (xs : List (Value × Value)) : Prop :=
  ∃ A c, v = .slice A xs.length c ∧ (xs.length ≤ c ∧ c ≤ 9223372036854775807) ∧ ∀ i x, xs[i]? = some x → ∃ g o, A = some ⟨g, o, none⟩ ∧ W.cell? ⟨g, o + i * 2, none⟩ = some x.1 ∧ W.cell? ⟨g, o + i * 2 + 1, none⟩ = some x.2
theorem PV.below {W W' : World} {v : Value} {xs : List (Value × Value)} (h : PV W v xs) (hb : Below W.heap.size W W') : PV W' v xs := by
  obtain ⟨A, c, rfl, h1, h2⟩ := h
  refine ⟨A, c, rfl, h1, fun i x hx => ?_⟩
  obtain ⟨g, o, e, c0, c1⟩ := h2 i x hx
  exact ⟨g, o, e, (hb.cell (p := ⟨g, o + i * 2, none⟩) (World.block_lt_of_cell? W _ c0)).trans c0, (hb.cell (p := ⟨g, o + i * 2 + 1, none⟩) (World.block_lt_of_cell? W _ c1)).trans c1⟩
theorem PV.nil (W : World) : PV W (.slice none 0 0) [] := ⟨none, 0, rfl, by simp, fun i x h => by simp at h⟩
theorem PV.take {W : World} {A : Option Addr} {n c : Nat} {xs : List (Value × Value)} (h : PV W (.slice A n c) xs) (k : Nat) (hk : k ≤ xs.length) : PV W (.slice A k c) (xs.take k) := by
  obtain ⟨A', c', e, h1, h2⟩ := h
  cases e
  refine ⟨A, c, by rw [List.length_take, Nat.min_eq_left hk], by rw [List.length_take, Nat.min_eq_left hk]; omega, fun i x hx => h2 i x ?_⟩
  have hi : i < (xs.take k).length := (List.getElem?_eq_some_iff.1 hx).1
  rw [List.getElem?_take_of_lt (by simp at hi; omega)] at hx
  exact hx
theorem PV.at_ {W : World} {A : Option Addr} {n c : Nat} {xs : List (Value × Value)} (h : PV W (.slice A n c) xs) (i : Nat) (x : Value × Value) (hx : xs[i]? = some x) : ∃ g o, A = some ⟨g, o, none⟩ ∧ W.cell? ⟨g, o + i * 2, none⟩ = some x.1 ∧ W.cell? ⟨g, o + i * 2 + 1, none⟩ = some x.2 := by
  obtain ⟨A', c', e, h1, h2⟩ := h
  cases e
  exact h2 i x hx

abbrev Cl := ByteArray × Int
def clV (cs : List Cl) : List (Value × Value) := cs.map fun c => (.string c.1, .int .i64 c.2)
theorem clV_len (cs : List Cl) : (clV cs).length = cs.length := by simp [clV]
theorem clV_get (cs : List Cl) (k : Nat) (h : k < cs.length) : (clV cs)[k]? = some (.string cs[k].1, .int .i64 cs[k].2) := by
  unfold clV; rw [List.getElem?_map, List.getElem?_eq_getElem h]; rfl
theorem clV_take (cs : List Cl) (k : Nat) : (clV cs).take k = clV (cs.take k) := by unfold clV; rw [List.map_take]
/-- the first class of a name -/
def findC (cs : List Cl) (s : ByteArray) : Option Cl := cs.find? fun c => c.1.toList == s.toList
theorem find_take_snoc (cs : List Cl) (s : ByteArray) (k : Nat) (hk : k < cs.length) (h : findC (cs.take k) s = none) (hne : (cs[k].1.toList == s.toList) = false) : findC (cs.take (k + 1)) s = none := by
  unfold findC at *
  rw [List.take_succ_eq_append_getElem hk, List.find?_append, h]
  simp [hne]
theorem find_at (cs : List Cl) (s : ByteArray) (k : Nat) (hk : k < cs.length) (h : findC (cs.take k) s = none) (he : (cs[k].1.toList == s.toList) = true) : findC cs s = some cs[k] := by
  unfold findC at *
  conv => lhs; rw [← List.take_append_drop k cs, List.drop_eq_getElem_cons hk]
  rw [List.find?_append, h, Option.none_or]
  exact List.find?_cons_of_pos he
def clName (o : Option Cl) : ByteArray := match o with | some c => c.1 | none => ByteArray.empty
def clKeep (o : Option Cl) : Int := match o with | some c => c.2 | none => 0
set_option maxRecDepth 100000 in
theorem load_class {w : World} {g : Nat} {x y : Value} (h : Row w g 56 [x, y]) (tmps : Array Value) (fn : Func) (p q : Tmp) (hf : fn.results = #[.cell p 56, .tmp q]) (v : Value)
    (hp : tmps.getD p undef = .pointer (some ⟨g, 0, none⟩)) (hq : tmps.getD q undef = v) (hx : x.oneCell' = true) (hy : y.oneCell' = true) : (results fn tmps).run Try.prog w = .ok (.tuple #[.agg #[x, y], v]) w := by
  have c0 := h.cell 0
  have c1 := h.cell 1
  simp at c0 c1
  have hp' : tmps[p]?.getD undef = .pointer (some ⟨g, 0, none⟩) := by rw [← Array.getD_eq_getD_getElem?]; exact hp
  have hq' : tmps[q]?.getD undef = v := by rw [← Array.getD_eq_getD_getElem?]; exact hq
  simp [results, hf, hp', hq', go_sem, c0, c1, Result.andThen]
set_option maxRecDepth 100000 in
set_option maxHeartbeats 4000000 in
/-- **Find** -/
theorem find_any (v : Value) (cs : List Cl) (s : ByteArray) (w : World) (hv : PV w v (clV cs)) :
    Calls Try.prog 45 #[v, .string s] w fun e w' => e = .returned (.tuple #[.agg #[.string (clName (findC cs s)), .int .i64 (clKeep (findC cs s))], .bool (findC cs s).isSome]) ∧ Below w.heap.size w w' := by
  have hv0 := hv
  obtain ⟨A, c, rfl, hc1, -⟩ := hv
  obtain ⟨R, hR⟩ : ∃ R, w.heap.size = R := ⟨_, rfl⟩
  have r0 : Row (w.alloc (.cells #[.string ByteArray.empty, .int .i64 0] 56)) R 56 [.string ByteArray.empty, .int .i64 0] := by rw [← hR]; exact Row.new w _ _
  have b0 : Below R w (w.alloc (.cells #[.string ByteArray.empty, .int .i64 0] 56)) := (Below.refl _ _).alloc (by omega) _
  obtain ⟨n, hn⟩ : ∃ n, cs.length = n := ⟨_, rfl⟩
  have hmo : ∀ r, findC cs s = r → ∀ nm kp b, clName r = nm → clKeep r = kp → r.isSome = b → Ending.returned (.tuple #[.agg #[.string nm, .int .i64 kp], .bool b]) = Ending.returned (.tuple #[.agg #[.string (clName (findC cs s)), .int .i64 (clKeep (findC cs s))], .bool (findC cs s).isSome]) := by
    intro r hr nm kp b h1 h2 h3
    rw [hr, h1, h2, h3]
  have HMO := Lib.hid hmo
  obtain ⟨E, hE⟩ : ∃ E, Ending.returned (.tuple #[.agg #[.string (clName (findC cs s)), .int .i64 (clKeep (findC cs s))], .bool (findC cs s).isSome]) = E := ⟨_, rfl⟩
  rw [hE] at HMO ⊢
  have HV := Lib.hid hv0
  rw [clV_len, hn] at hc1
  rw [clV_len, hn] at HV ⊢
  have HN := Lib.hid hn
  have R0 := Lib.hid r0
  have B0 := Lib.hid b0
  clear hv0 hn hE hmo r0 b0
  go_enter Try.func45, Try.ntmps45
  go_wp2
  go_loopw [10, 7] (fun i x wr => ∃ k : Nat, (i = .int .i64 (k : Int) ∧ k ≤ n) ∧ Hid (findC (cs.take k) s = none) ∧ Row wr R 56 [.string ByteArray.empty, .int .i64 0] ∧ Below R w wr) (fun i _ _ => n - (intOf i).toNat)
  case atStart => exact ⟨0, ⟨rfl, Nat.zero_le _⟩, rfl, R0.out, B0.out⟩
  case round =>
    clear R0 B0
    obtain ⟨k, ⟨rfl, hk⟩, hno, hr, hb⟩ := hrel
    have hRw : R < wr.heap.size := hr.lt
    by_cases hlt : k < n
    · have hkc : k < cs.length := by rw [HN.out]; exact hlt
      obtain ⟨g, o, rfl, c0, c1⟩ := (HV.out.below (hR ▸ hb)).at_ k _ (clV_get cs k hkc)
      have hsn := find_take_snoc cs s k hkc hno.out
      have hat := find_at cs s k hkc hno.out
      obtain ⟨nm, hnm⟩ : ∃ nm, cs[k].1 = nm := ⟨_, rfl⟩
      obtain ⟨kp, hkp⟩ : ∃ kp, cs[k].2 = kp := ⟨_, rfl⟩
      have hck : cs[k] = (nm, kp) := by rw [← hnm, ← hkp]
      rw [hnm] at c0 hsn hat
      rw [hkp] at c1
      rw [hck] at hat
      have HSN := Lib.hid hsn
      have HAT := Lib.hid hat
      have d0 : decide (k < n) = true := decide_eq_true hlt
      have k0 : (0 : Int) ≤ (k : Int) := by omega
      have k1 : (k : Int) < (n : Int) := by omega
      have hr' := hr.alloc (.cells #[.string nm, .int .i64 kp] 56)
      have hb' : Below R w (wr.alloc (.cells #[.string nm, .int .i64 kp] 56)) := hb.alloc (by omega) _
      have HRA := Lib.hid hr'
      have HR0 := Lib.hid hr
      have HB0 := Lib.hid hb
      have HBA := Lib.hid hb'
      obtain ⟨eqb, heq⟩ : ∃ b, (nm.toList == s.toList) = b := ⟨_, rfl⟩
      rw [heq] at HSN HAT
      clear hsn hat hnm hkp hck hr hr' hb hb' hno
      cases eqb with
      | false =>
        go_wp2
        go_roundw
        case rel => exact ⟨k + 1, ⟨by go_num, by omega⟩, HSN.out rfl, HRA.out, HBA.out⟩
        case measure => simp [intOf]; omega
      | true =>
        have hf0 := HR0.out.cell 0
        have hf1 := HR0.out.cell 1
        have hz0 := HR0.out.frozen 0
        have hz1 := HR0.out.frozen 1
        simp at hf0 hf1
        have hne : ¬ R = wr.heap.size := by omega
        have hne' : ¬ wr.heap.size = R := by omega
        have hw2 := ((HR0.out.set 0 (.string nm)).set 1 (.int .i64 kp)).alloc (.cells #[.string nm, .int .i64 kp] 56)
        have hb2 := ((HB0.out.setCell (p := ⟨R, 0, none⟩) (Nat.le_refl _) (.string nm)).setCell (p := ⟨R, 1, none⟩) (Nat.le_refl _) (.int .i64 kp)).alloc (by simp [World.setCell]; omega) (.cells #[.string nm, .int .i64 kp] 56)
        have HW2 := Lib.hid hw2
        have HB2 := Lib.hid hb2
        clear hw2 hb2
        have HFIN := Lib.hid (HMO.out _ (HAT.out rfl) nm kp true rfl rfl rfl)
        go_wp2
        refine bodyPost_ret (load_class HW2.out _ _ _ _ Try.results45 (.bool true) rfl rfl rfl rfl) rfl ?_
        exact ⟨HFIN.out, by first | exact HB2.out | (rw [hR]; exact HB2.out)⟩
    · have d0 : decide (k < n) = false := decide_eq_false hlt
      have hfin : findC cs s = none := by rw [← hno.out, List.take_of_length_le (by rw [HN.out]; omega)]
      have HFIN := Lib.hid (HMO.out _ hfin ByteArray.empty 0 false rfl rfl rfl)
      have hf0 := hr.cell 0
      have hf1 := hr.cell 1
      have hz0 := hr.frozen 0
      have hz1 := hr.frozen 1
      simp at hf0 hf1
      have hw2 := (hr.set 0 (.string ByteArray.empty)).set 1 (.int .i64 0)
      have hb2 := (hb.setCell (p := ⟨R, 0, none⟩) (Nat.le_refl _) (.string ByteArray.empty)).setCell (p := ⟨R, 1, none⟩) (Nat.le_refl _) (.int .i64 0)
      have HW2 := Lib.hid hw2
      have HB2 := Lib.hid hb2
      clear hw2 hb2 hfin hno hr hb
      go_wp2
      refine bodyPost_ret (load_class HW2.out _ _ _ _ Try.results45 (.bool false) rfl rfl rfl rfl) rfl ?_
      exact ⟨HFIN.out, by first | exact HB2.out | (rw [hR]; exact HB2.out)⟩
end Go.Proofs.Ytofdfcngmkkfdaa

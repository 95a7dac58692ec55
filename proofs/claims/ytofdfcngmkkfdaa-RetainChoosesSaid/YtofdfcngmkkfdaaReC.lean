/- The reference's Find; Over of both; how arguments read. -/
import Derived.RangeFuncNested
import Derived.RangeFuncBound
import Derived.RangeFuncCalls
import Derived.RangeFuncLeaves
import Derived.Shelf.Abstract
import Derived.Shelf.RegionOpen
import Derived.WalkKit
import Derived.OwnWalkIn
import Derived.TacticsInMore
import Derived.LoopNIn
import Derived.LoopIn
import Derived.Outline
import Derived.Lib.Hide
import Derived.Lib.SliceRun
import Derived.IntWalk
import Derived.WalkLawsBesides
import Derived.WalkSpells
import Derived.Laws.BitsAllLaws
import Derived.Lib.ConvBytes
import Derived.Maps.AppendAt
import Derived.Lib.AppendStr
import Derived.Lib.SlBytesConst
import Derived.Laws.AppendOwnNone
import Derived.Laws.OwnMore
import Derived.Laws.BytesArg
import Derived.Deep.RegionHeld3
import Derived.BigQuiet
import Derived.Deep.RegionLaw
import Derived.Deep.QuietTactic
import Derived.Lib.OthersKept
import Derived.Test.YtofdfcngmkkfdaaProg
import Derived.Deep.DeepFit
import Derived.Test.YtofdfcngmkkfdaaReB
set_option linter.unusedVariables false
set_option linter.unusedSimpArgs false
namespace Go.Proofs.Ytofdfcngmkkfdaa
open Go Go.RowKit Go.Shelf

set_option maxRecDepth 100000 in
set_option maxHeartbeats 4000000 in
/-- **the reference's Find** -/
theorem rfind_any (v : Value) (cs : List Cl) (s : ByteArray) (w : World) (hv : PV w v (clV cs)) :
    Calls Try.prog 46 #[v, .string s] w fun e w' => e = .returned (.tuple #[.agg #[.string (clName (findC cs s)), .int .i64 (clKeep (findC cs s))], .bool (findC cs s).isSome]) ∧ Below w.heap.size w w' := by
  have hv0 := hv
  obtain ⟨A, c, rfl, hc1, -⟩ := hv
  obtain ⟨R, hR⟩ : ∃ R, w.heap.size = R := ⟨_, rfl⟩
  have r0 : Row (w.alloc (.cells #[.string ByteArray.empty, .int .i64 0] 56)) R 56 [.string ByteArray.empty, .int .i64 0] := by rw [← hR]; exact Row.new w _ _
  have b0 : Below R w (w.alloc (.cells #[.string ByteArray.empty, .int .i64 0] 56)) := (Below.refl _ _).alloc (by omega) _
  obtain ⟨n, hn⟩ : ∃ n, cs.length = n := ⟨_, rfl⟩
  have hmo : ∀ r, findC cs s = r → ∀ nm kp b, clName r = nm → clKeep r = kp → r.isSome = b → Ending.returned (.tuple #[.agg #[.string nm, .int .i64 kp], .bool b]) = Ending.returned (.tuple #[.agg #[.string (clName (findC cs s)), .int .i64 (clKeep (findC cs s))], .bool (findC cs s).isSome]) := by
    intro r hr nm kp b h1 h2 h3
    rw [hr, h1, h2, h3]
  have HMO := Lib.hid hmo
  obtain ⟨E, hE⟩ : ∃ E, Ending.returned (.tuple #[.agg #[.string (clName (findC cs s)), .int .i64 (clKeep (findC cs s))], .bool (findC cs s).isSome]) = E := ⟨_, rfl⟩
  rw [hE] at HMO ⊢
  have HV := Lib.hid hv0
  rw [clV_len, hn] at hc1
  rw [clV_len, hn] at HV ⊢
  have HN := Lib.hid hn
  have R0 := Lib.hid r0
  have B0 := Lib.hid b0
  clear hv0 hn hE hmo r0 b0
  go_enter Try.func46, Try.ntmps46
  go_wp2
  go_loopw [10, 7] (fun i x wr => ∃ k : Nat, (i = .int .i64 (k : Int) ∧ k ≤ n) ∧ Hid (findC (cs.take k) s = none) ∧ Row wr R 56 [.string ByteArray.empty, .int .i64 0] ∧ Below R w wr) (fun i _ _ => n - (intOf i).toNat)
  case atStart => exact ⟨0, ⟨rfl, Nat.zero_le _⟩, rfl, R0.out, B0.out⟩
  case round =>
    clear R0 B0
    obtain ⟨k, ⟨rfl, hk⟩, hno, hr, hb⟩ := hrel
    have hRw : R < wr.heap.size := hr.lt
    by_cases hlt : k < n
    · have hkc : k < cs.length := by rw [HN.out]; exact hlt
      obtain ⟨g, o, rfl, c0, c1⟩ := (HV.out.below (hR ▸ hb)).at_ k _ (clV_get cs k hkc)
      have hsn := find_take_snoc cs s k hkc hno.out
      have hat := find_at cs s k hkc hno.out
      obtain ⟨nm, hnm⟩ : ∃ nm, cs[k].1 = nm := ⟨_, rfl⟩
      obtain ⟨kp, hkp⟩ : ∃ kp, cs[k].2 = kp := ⟨_, rfl⟩
      have hck : cs[k] = (nm, kp) := by rw [← hnm, ← hkp]
      rw [hnm] at c0 hsn hat
      rw [hkp] at c1
      rw [hck] at hat
      have HSN := Lib.hid hsn
      have HAT := Lib.hid hat
      have d0 : decide (k < n) = true := decide_eq_true hlt
      have k0 : (0 : Int) ≤ (k : Int) := by omega
      have k1 : (k : Int) < (n : Int) := by omega
      have hr' := hr.alloc (.cells #[.string nm, .int .i64 kp] 56)
      have hb' : Below R w (wr.alloc (.cells #[.string nm, .int .i64 kp] 56)) := hb.alloc (by omega) _
      have HRA := Lib.hid hr'
      have HR0 := Lib.hid hr
      have HB0 := Lib.hid hb
      have HBA := Lib.hid hb'
      obtain ⟨eqb, heq⟩ : ∃ b, (nm.toList == s.toList) = b := ⟨_, rfl⟩
      rw [heq] at HSN HAT
      clear hsn hat hnm hkp hck hr hr' hb hb' hno
      cases eqb with
      | false =>
        go_wp2
        go_roundw
        case rel => exact ⟨k + 1, ⟨by go_num, by omega⟩, HSN.out rfl, HRA.out, HBA.out⟩
        case measure => simp [intOf]; omega
      | true =>
        have hf0 := HR0.out.cell 0
        have hf1 := HR0.out.cell 1
        have hz0 := HR0.out.frozen 0
        have hz1 := HR0.out.frozen 1
        simp at hf0 hf1
        have hne : ¬ R = wr.heap.size := by omega
        have hne' : ¬ wr.heap.size = R := by omega
        have hw2 := ((HR0.out.set 0 (.string nm)).set 1 (.int .i64 kp)).alloc (.cells #[.string nm, .int .i64 kp] 56)
        have hb2 := ((HB0.out.setCell (p := ⟨R, 0, none⟩) (Nat.le_refl _) (.string nm)).setCell (p := ⟨R, 1, none⟩) (Nat.le_refl _) (.int .i64 kp)).alloc (by simp [World.setCell]; omega) (.cells #[.string nm, .int .i64 kp] 56)
        have HW2 := Lib.hid hw2
        have HB2 := Lib.hid hb2
        clear hw2 hb2
        have HFIN := Lib.hid (HMO.out _ (HAT.out rfl) nm kp true rfl rfl rfl)
        go_wp2
        refine bodyPost_ret (load_class HW2.out _ _ _ _ Try.results46 (.bool true) rfl rfl rfl rfl) rfl ?_
        exact ⟨HFIN.out, by first | exact HB2.out | (rw [hR]; exact HB2.out)⟩
    · have d0 : decide (k < n) = false := decide_eq_false hlt
      have hfin : findC cs s = none := by rw [← hno.out, List.take_of_length_le (by rw [HN.out]; omega)]
      have HFIN := Lib.hid (HMO.out _ hfin ByteArray.empty 0 false rfl rfl rfl)
      have hf0 := hr.cell 0
      have hf1 := hr.cell 1
      have hz0 := hr.frozen 0
      have hz1 := hr.frozen 1
      simp at hf0 hf1
      have hw2 := (hr.set 0 (.string ByteArray.empty)).set 1 (.int .i64 0)
      have hb2 := (hb.setCell (p := ⟨R, 0, none⟩) (Nat.le_refl _) (.string ByteArray.empty)).setCell (p := ⟨R, 1, none⟩) (Nat.le_refl _) (.int .i64 0)
      have HW2 := Lib.hid hw2
      have HB2 := Lib.hid hb2
      clear hw2 hb2 hfin hno hr hb
      go_wp2
      refine bodyPost_ret (load_class HW2.out _ _ _ _ Try.results46 (.bool false) rfl rfl rfl rfl) rfl ?_
      exact ⟨HFIN.out, by first | exact HB2.out | (rw [hR]; exact HB2.out)⟩
/-- whether it is over -/
def overB (cs : List Cl) (s : ByteArray) (a n : Int) : Bool := match findC cs s with
  | none => false
  | some c => decide (untN a c.2 ≤ n)
theorem find_mem {cs : List Cl} {s : ByteArray} {c : Cl} (h : findC cs s = some c) : c ∈ cs := List.mem_of_find?_eq_some h
set_option maxRecDepth 100000 in
set_option maxHeartbeats 2000000 in
theorem over_any (v : Value) (cs : List Cl) (s : ByteArray) (a n : Int) (w : World) (hv : PV w v (clV cs)) (hcs : ∀ c ∈ cs, in64 c.2) (ha : in64 a) :
    Calls Try.prog 32 #[v, .string s, .int .i64 a, .int .i64 n] w fun e w' => e = .returned (.bool (overB cs s a n)) ∧ Below w.heap.size w w' := by
  have hf := fun w' hb => find_any v cs s w' (hv.below (W' := w') hb)
  obtain ⟨A, c, rfl, -, -⟩ := hv
  obtain ⟨o, ho⟩ : ∃ o, findC cs s = o := ⟨_, rfl⟩
  simp only [ho] at hf
  cases o with
  | none =>
    have hr : overB cs s a n = false := by unfold overB; rw [ho]
    rw [hr]
    have HF : Hid (∀ w', Below w.heap.size w w' → Calls Try.prog 45 #[.slice A (clV cs).length c, .string s] w' fun e w'' => e = .returned (.tuple #[.agg #[.string ByteArray.empty, .int .i64 0], .bool false]) ∧ Below w'.heap.size w' w'') := hf
    clear hf ho hr
    go_enter Try.func32, Try.ntmps32
    go_wp2_with fail
    refine (HF.out _ (Below.refl _ _)).mono ?_
    rintro e w1 ⟨rfl, hb⟩
    go_wp2
    go_ret
    exact ⟨rfl, hb.alloc hb.size _⟩
  | some x =>
    obtain ⟨nm, kp⟩ := x
    have hin := hcs _ (find_mem ho)
    have hr : overB cs s a n = decide (untN a kp ≤ n) := by unfold overB; rw [ho]
    rw [hr]
    have HF : Hid (∀ w', Below w.heap.size w w' → Calls Try.prog 45 #[.slice A (clV cs).length c, .string s] w' fun e w'' => e = .returned (.tuple #[.agg #[.string nm, .int .i64 kp], .bool true]) ∧ Below w'.heap.size w' w'') := hf
    have hu := fun w => until_any a kp ha hin w
    obtain ⟨u, hue⟩ : ∃ u, untN a kp = u := ⟨_, rfl⟩
    simp only [hue] at hu
    rw [hue]
    have HU := Lib.hid hu
    obtain ⟨r, hre⟩ : ∃ r, decide (u ≤ n) = r := ⟨_, rfl⟩
    rw [hre]
    clear hf ho hr hin hcs hu hue
    go_enter Try.func32, Try.ntmps32
    go_wp2_with fail
    refine (HF.out _ (Below.refl _ _)).mono ?_
    rintro e w1 ⟨rfl, hb⟩
    go_wp2_with fail
    refine (HU.out _).mono ?_
    rintro e w2 ⟨rfl, rfl⟩
    go_wp2
    go_ret
    exact ⟨rfl, hb.alloc hb.size _⟩
set_option maxRecDepth 100000 in
set_option maxHeartbeats 2000000 in
theorem rover_any (v : Value) (cs : List Cl) (s : ByteArray) (a n : Int) (w : World) (hv : PV w v (clV cs)) (hcs : ∀ c ∈ cs, in64 c.2) (ha : in64 a) :
    Calls Try.prog 33 #[v, .string s, .int .i64 a, .int .i64 n] w fun e w' => e = .returned (.bool (overB cs s a n)) ∧ Below w.heap.size w w' := by
  have hf := fun w' hb => rfind_any v cs s w' (hv.below (W' := w') hb)
  obtain ⟨A, c, rfl, -, -⟩ := hv
  obtain ⟨o, ho⟩ : ∃ o, findC cs s = o := ⟨_, rfl⟩
  simp only [ho] at hf
  cases o with
  | none =>
    have hr : overB cs s a n = false := by unfold overB; rw [ho]
    rw [hr]
    have HF : Hid (∀ w', Below w.heap.size w w' → Calls Try.prog 46 #[.slice A (clV cs).length c, .string s] w' fun e w'' => e = .returned (.tuple #[.agg #[.string ByteArray.empty, .int .i64 0], .bool false]) ∧ Below w'.heap.size w' w'') := hf
    clear hf ho hr
    go_enter Try.func33, Try.ntmps33
    go_wp2_with fail
    refine (HF.out _ (Below.refl _ _)).mono ?_
    rintro e w1 ⟨rfl, hb⟩
    go_wp2
    go_ret
    exact ⟨rfl, hb.alloc hb.size _⟩
  | some x =>
    obtain ⟨nm, kp⟩ := x
    have hin := hcs _ (find_mem ho)
    have hr : overB cs s a n = decide (untN a kp ≤ n) := by unfold overB; rw [ho]
    rw [hr]
    have HF : Hid (∀ w', Below w.heap.size w w' → Calls Try.prog 46 #[.slice A (clV cs).length c, .string s] w' fun e w'' => e = .returned (.tuple #[.agg #[.string nm, .int .i64 kp], .bool true]) ∧ Below w'.heap.size w' w'') := hf
    have hu := fun w => runtil_any a kp ha hin w
    obtain ⟨u, hue⟩ : ∃ u, untN a kp = u := ⟨_, rfl⟩
    simp only [hue] at hu
    rw [hue]
    have HU := Lib.hid hu
    obtain ⟨r, hre⟩ : ∃ r, decide (u ≤ n) = r := ⟨_, rfl⟩
    rw [hre]
    clear hf ho hr hin hcs hu hue
    go_enter Try.func33, Try.ntmps33
    go_wp2_with fail
    refine (HF.out _ (Below.refl _ _)).mono ?_
    rintro e w1 ⟨rfl, hb⟩
    go_wp2_with fail
    refine (HU.out _).mono ?_
    rintro e w2 ⟨rfl, rfl⟩
    go_wp2
    go_ret
    exact ⟨rfl, hb.alloc hb.size _⟩

open Go.ChangeShapes Go.WideShapes Go.ChangeAt in
set_option maxRecDepth 100000 in
theorem Open.classes {H : Type} {enc : TypeId × Value → H} {W : World} {b0 : Nat} {v : Value} {d : DataW H} {p : List MemPlace} (hv : Value.okWide Try.prog W .any b0 28 v)
    (h : DataW.Trod enc Try.prog W 0 (fun _ => true) true 28 v d p) : ∃ cs : List Cl, PV W v (clV cs) ∧ ∀ c ∈ cs, in64 c.2 ∧ c.1.size ≤ maxLen := by
  obtain ⟨a0, len0, cap0, rfl⟩ := okWide_slice Try.underlying28 hv
  obtain ⟨fuel, hf⟩ := h
  rcases Deep.open_slice_pairs Try.underlying28 Try.underlying56 (by kernel_rfl) rfl rfl (by kernel_rfl) (by kernel_rfl) hf with ⟨hcs, _⟩ | ⟨a, len, cap, m, n, V0, V1, D0, D1, P0, P1, hcs, _, hl, hm, hmm, _, hx⟩
  · simp [Value.cells] at hcs
    obtain ⟨rfl, rfl, rfl⟩ := hcs
    exact ⟨[], PV.nil W, by simp⟩
  · simp [Value.cells] at hcs
    obtain ⟨rfl, rfl, rfl⟩ := hcs
    have hm' : m = cap0 := by simpa using hmm
    obtain ⟨f, hff⟩ := Deep.choose_lt (α := Cl) (n := len0) (p := fun i x => V0 i = .string x.1 ∧ V1 i = .int .i64 x.2 ∧ in64 x.2 ∧ x.1.size ≤ maxLen) (fun i hi => by
      obtain ⟨_, _, h0, h1⟩ := hx i (by omega)
      obtain ⟨p, hp, -, wp⟩ := DataW.trod_string Try.underlying9 h0
      obtain ⟨q, hq, -, wq⟩ := DataW.trod_int Try.underlying2 h1
      simp at hp hq
      exact ⟨(p, q), hp, hq, in64_of wq, wp⟩)
    have hlen : ((List.range len0).map f).length = len0 := by simp
    refine ⟨(List.range len0).map f, ⟨some a, cap0, by rw [clV_len, hlen], by rw [clV_len, hlen]; unfold maxLen at hm; omega, fun i x hxi => ?_⟩, ?_⟩
    · have hi : i < len0 := by have := (List.getElem?_eq_some_iff.1 hxi).1; rw [clV_len, hlen] at this; exact this
      obtain ⟨b, off, spot⟩ := a
      obtain ⟨c0, c1, _, _⟩ := hx i (by omega)
      have hspot : spot = none := by simpa [Addr.add] using World.cell?_spot (hx 0 (by omega)).1
      subst hspot
      obtain ⟨e0, e1, b1, b2⟩ := hff i hi
      have hplain : ∀ k, (⟨b, off, none⟩ : Addr).add k = ⟨b, off + k, none⟩ := fun k => by unfold Addr.add; split <;> simp_all
      rw [hplain] at c0 c1
      rw [clV_get _ i (by rw [hlen]; exact hi)] at hxi
      cases hxi
      have eq : ((List.range len0).map f)[i]'(by rw [hlen]; exact hi) = f i := by simp
      refine ⟨b, off, rfl, ?_, ?_⟩
      · rw [eq, c0, e0]
      · rw [eq, Nat.add_assoc, c1, e1]
    · intro c hc
      obtain ⟨i, hi, rfl⟩ := List.mem_map.1 hc
      obtain ⟨_, _, b1, b2⟩ := hff i (List.mem_range.1 hi)
      exact ⟨b1, b2⟩
abbrev Ru := ByteArray × ByteArray
def ruV (rs : List Ru) : List (Value × Value) := rs.map fun r => (.string r.1, .string r.2)
theorem ruV_len (cs : List Ru) : (ruV cs).length = cs.length := by simp [ruV]
theorem ruV_get (cs : List Ru) (k : Nat) (h : k < cs.length) : (ruV cs)[k]? = some (.string cs[k].1, .string cs[k].2) := by
  unfold ruV; rw [List.getElem?_map, List.getElem?_eq_getElem h]; rfl
open Go.ChangeShapes Go.WideShapes Go.ChangeAt in
set_option maxRecDepth 100000 in
theorem Open.pairs_of {t e : TypeId} {f0 f1 : Field} (ht : Try.prog.underlying t = some (.slice e)) (he : Try.prog.underlying e = some (.struct #[f0, f1]))
    (ce : Try.prog.cellsOf e = 2) (o0 : f0.offset = 0) (o1 : f1.offset = 1) (t0 : f0.type = 9) (t1 : f1.type = 9)
    {H : Type} {enc : TypeId × Value → H} {W : World} {b0 : Nat} {v : Value} {d : DataW H} {p : List MemPlace} (hv : Value.okWide Try.prog W .any b0 t v)
    (h : DataW.Trod enc Try.prog W 0 (fun _ => true) true t v d p) : ∃ cs : List Ru, PV W v (ruV cs) ∧ ∀ c ∈ cs, c.1.size ≤ maxLen ∧ c.2.size ≤ maxLen := by
  obtain ⟨a0, len0, cap0, rfl⟩ := okWide_slice ht hv
  obtain ⟨fuel, hf⟩ := h
  rcases Deep.open_slice_pairs ht he ce o0 o1 (by rw [t0]; kernel_rfl) (by rw [t1]; kernel_rfl) hf with ⟨hcs, _⟩ | ⟨a, len, cap, m, n, V0, V1, D0, D1, P0, P1, hcs, _, hl, hm, hmm, _, hx⟩
  · simp [Value.cells] at hcs
    obtain ⟨rfl, rfl, rfl⟩ := hcs
    exact ⟨[], PV.nil W, by simp⟩
  · simp [Value.cells] at hcs
    obtain ⟨rfl, rfl, rfl⟩ := hcs
    have hm' : m = cap0 := by simpa using hmm
    obtain ⟨f, hff⟩ := Deep.choose_lt (α := Ru) (n := len0) (p := fun i x => V0 i = .string x.1 ∧ V1 i = .string x.2 ∧ x.1.size ≤ maxLen ∧ x.2.size ≤ maxLen) (fun i hi => by
      obtain ⟨_, _, h0, h1⟩ := hx i (by omega)
      rw [t0] at h0
      rw [t1] at h1
      obtain ⟨p, hp, -, wp⟩ := DataW.trod_string Try.underlying9 h0
      obtain ⟨q, hq, -, wq⟩ := DataW.trod_string Try.underlying9 h1
      simp at hp hq
      exact ⟨(p, q), hp, hq, wp, wq⟩)
    have hlen : ((List.range len0).map f).length = len0 := by simp
    refine ⟨(List.range len0).map f, ⟨some a, cap0, by rw [ruV_len, hlen], by rw [ruV_len, hlen]; unfold maxLen at hm; omega, fun i x hxi => ?_⟩, ?_⟩
    · have hi : i < len0 := by have := (List.getElem?_eq_some_iff.1 hxi).1; rw [ruV_len, hlen] at this; exact this
      obtain ⟨b, off, spot⟩ := a
      obtain ⟨c0, c1, _, _⟩ := hx i (by omega)
      have hspot : spot = none := by simpa [Addr.add] using World.cell?_spot (hx 0 (by omega)).1
      subst hspot
      obtain ⟨e0, e1, b1, b2⟩ := hff i hi
      have hplain : ∀ k, (⟨b, off, none⟩ : Addr).add k = ⟨b, off + k, none⟩ := fun k => by unfold Addr.add; split <;> simp_all
      rw [hplain] at c0 c1
      rw [ruV_get _ i (by rw [hlen]; exact hi)] at hxi
      cases hxi
      have eq : ((List.range len0).map f)[i]'(by rw [hlen]; exact hi) = f i := by simp
      refine ⟨b, off, rfl, ?_, ?_⟩
      · rw [eq, c0, e0]
      · rw [eq, Nat.add_assoc, c1, e1]
    · intro c hc
      obtain ⟨i, hi, rfl⟩ := List.mem_map.1 hc
      obtain ⟨_, _, b1, b2⟩ := hff i (List.mem_range.1 hi)
      exact ⟨b1, b2⟩
open Go.ChangeShapes Go.WideShapes Go.ChangeAt in
theorem Open.rules {H : Type} {enc : TypeId × Value → H} {W : World} {b0 : Nat} {v : Value} {d : DataW H} {p : List MemPlace} (hv : Value.okWide Try.prog W .any b0 29 v)
    (h : DataW.Trod enc Try.prog W 0 (fun _ => true) true 29 v d p) : ∃ cs : List Ru, PV W v (ruV cs) ∧ ∀ c ∈ cs, c.1.size ≤ maxLen ∧ c.2.size ≤ maxLen :=
  Open.pairs_of Try.underlying29 Try.underlying78 (by kernel_rfl) rfl rfl rfl rfl hv h
open Go.ChangeShapes Go.WideShapes Go.ChangeAt in
theorem Open.holds {H : Type} {enc : TypeId × Value → H} {W : World} {b0 : Nat} {v : Value} {d : DataW H} {p : List MemPlace} (hv : Value.okWide Try.prog W .any b0 45 v)
    (h : DataW.Trod enc Try.prog W 0 (fun _ => true) true 45 v d p) : ∃ cs : List Ru, PV W v (ruV cs) ∧ ∀ c ∈ cs, c.1.size ≤ maxLen ∧ c.2.size ≤ maxLen :=
  Open.pairs_of Try.underlying45 Try.underlying47 (by kernel_rfl) rfl rfl rfl rfl hv h
/-- a slice of texts -/
def TV (W : World) (v : Value) (ss : List ByteArray) : Prop := SL W v (ss.map fun s => .string s)
open Go.ChangeShapes Go.WideShapes Go.ChangeAt in
theorem Open.cells_texts {H : Type} {enc : TypeId × Value → H} {W : World} {fuel : Nat} {v : Value} {x : DataW H × List MemPlace}
    (h : DataW.trod enc Try.prog W 0 (fun _ => true) true fuel 31 [v] = some x) : ∃ ss : List ByteArray, TV W v ss ∧ ∀ s ∈ ss, s.size ≤ maxLen := by
  rcases open_strings Try.underlying31 Try.underlying9 (by kernel_rfl) h with ⟨hcs, _⟩ | ⟨a, len, cap, ss, hcs, _, hl, hm, hsl, _, hx, hsz⟩
  · simp at hcs
    subst hcs
    exact ⟨[], ⟨none, 0, rfl, by simp, fun i h => by simp at h⟩, by simp⟩
  · simp at hcs
    subst hcs
    have hsl' : ss.length = cap := by simpa using hsl
    refine ⟨ss.take len, ⟨some a, cap, by simp; omega, by simp; unfold maxLen at hm; omega, fun i hi => ?_⟩, fun s hs => hsz s (List.mem_of_mem_take hs)⟩
    have hi2 : i < len := by simp at hi; omega
    have hc := hx i (by omega)
    obtain ⟨b, off, spot⟩ := a
    have hspot : spot = none := by simpa [Addr.add] using World.cell?_spot (hx 0 (by omega))
    subst hspot
    refine ⟨b, off, rfl, ?_⟩
    have hplain : (⟨b, off, none⟩ : Addr).add i = ⟨b, off + i, none⟩ := by unfold Addr.add; split <;> simp_all
    rw [hplain] at hc
    rw [hc, List.getElem?_map, List.getElem?_take_of_lt hi2, List.getD, List.getElem?_eq_getElem (by omega)]
    rfl
end Go.Proofs.Ytofdfcngmkkfdaa

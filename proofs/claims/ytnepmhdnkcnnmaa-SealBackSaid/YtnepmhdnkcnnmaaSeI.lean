/- How seals read, as arguments. -/
import Derived.RangeFuncNested
import Derived.RangeFuncBound
import Derived.RangeFuncCalls
import Derived.RangeFuncLeaves
import Derived.Shelf.Abstract
import Derived.Shelf.RegionOpen
import Derived.WalkKit
import Derived.OwnWalkIn
import Derived.TacticsInMore
import Derived.LoopNIn
import Derived.LoopIn
import Derived.Outline
import Derived.Lib.Hide
import Derived.Lib.SliceRun
import Derived.IntWalk
import Derived.WalkLawsBesides
import Derived.WalkSpells
import Derived.Laws.BitsAllLaws
import Derived.Lib.ConvBytes
import Derived.Maps.AppendAt
import Derived.Lib.AppendStr
import Derived.Lib.SlBytesConst
import Derived.Laws.AppendOwnNone
import Derived.Laws.OwnMore
import Derived.Laws.BytesArg
import Derived.Deep.RegionHeld3
import Derived.BigQuiet
import Derived.Deep.RegionLaw
import Derived.Deep.QuietTactic
import Derived.Lib.OthersKept
import Derived.Test.YtnepmhdnkcnnmaaProg
import Derived.Deep.DeepFit
import Derived.ProofKit
import Derived.OpenShut
import Derived.Deep.Slices
import Derived.Lib.SmallJoins
import Derived.Test.YtnepmhdnkcnnmaaSeH
set_option linter.unusedVariables false
set_option linter.unusedSimpArgs false
namespace Go.Proofs.Ytnepmhdnkcnnmaa
open Go Go.RowKit Go.Shelf

instance : Inhabited Sl := ⟨⟨0, 0, [], []⟩⟩
def in64 (a : Int) : Prop := -9223372036854775808 ≤ a ∧ a ≤ 9223372036854775807
theorem in64_of {a : Int} (h : (Lit.int .i64 a).wf = true) : in64 a := by
  simp [Lit.wf, IntKind.min, IntKind.max, IntKind.signed, IntKind.bits] at h
  unfold in64
  omega
open Go.ChangeShapes Go.WideShapes Go.ChangeAt in
set_option maxRecDepth 100000 in
theorem Open.cells_seal {H : Type} {enc : TypeId × Value → H} {W : World} {fuel : Nat} {cs : List Value} {x : DataW H × List MemPlace}
    (h : DataW.trod enc Try.prog W 0 (fun _ => true) true fuel 27 cs = some x) : ∃ x : Sl, cs = x.cells ∧ x.ok ∧ in64 x.s ∧ in64 x.c := by
  have hcell : Try.prog.cellsOf 27 = 66 := by kernel_rfl
  have hcell1 : Try.prog.cellsOf 3 = 1 := by kernel_rfl
  have hcell32 : Try.prog.cellsOf 23 = 32 := by kernel_rfl
  have hu : Try.prog.underlying 27 = some (.struct #[{ name := "Seg", type := 3, offset := 0, embedded := false, tag := "", pkgPath := "", byteOffset := 0 }, { name := "Count", type := 3, offset := 1, embedded := false, tag := "", pkgPath := "", byteOffset := 8 }, { name := "Root", type := 23, offset := 2, embedded := false, tag := "", pkgPath := "", byteOffset := 16 }, { name := "Prev", type := 23, offset := 34, embedded := false, tag := "", pkgPath := "", byteOffset := 48 }]) := by kernel_rfl
  obtain ⟨y0, y1, y2, y3, n, -, hlen, h0, h1, h2, h3⟩ := Go.Joins.trod_struct4 hu h
  simp only [hcell, hcell1, hcell32] at hlen h0 h1 h2 h3
  obtain ⟨a, ha, -, wa⟩ := DataW.trod_int Try.underlying3 h0
  obtain ⟨b, hb, -, wb⟩ := DataW.trod_int Try.underlying3 h1
  obtain ⟨r, hr, hr32⟩ := Open.cells_sum h2
  obtain ⟨p, hp, hp32⟩ := Open.cells_sum h3
  refine ⟨⟨a, b, r, p⟩, ?_, ⟨hr32, hp32⟩, in64_of wa, in64_of wb⟩
  show cs = sealC a b r p
  unfold sealC
  rw [← hr, ← hp]
  match cs, hlen with
  | c0 :: c1 :: t, hl =>
    simp at ha hb
    subst ha hb
    simp only [List.drop_succ_cons, List.drop_zero]
    congr 2
    have e : (t.drop 32).take 32 = t.drop 32 := List.take_of_length_le (by simp at hl ⊢; omega)
    rw [e, List.take_append_drop]
open Go.ChangeShapes Go.WideShapes Go.ChangeAt in
set_option maxRecDepth 100000 in
theorem Open.seal {H : Type} {enc : TypeId × Value → H} {W : World} {b0 : Nat} {v : Value} {d : DataW H} {p : List MemPlace} (hv : Value.okWide Try.prog W .any b0 27 v)
    (h : DataW.Trod enc Try.prog W 0 (fun _ => true) true 27 v d p) : ∃ x : Sl, v = .agg x.cells.toArray ∧ x.ok ∧ in64 x.s ∧ in64 x.c := by
  obtain ⟨cs, rfl, _⟩ := okWide_struct (show Try.prog.underlying 27 = some (.struct (Try.prog.fieldsOf 27)) by kernel_rfl) hv
  obtain ⟨fuel, hf⟩ := h
  obtain ⟨x, hx, h⟩ := Open.cells_seal hf
  refine ⟨x, ?_, h⟩
  congr 1
  rw [← hx]
  simp [Value.cells]
open Go.ChangeShapes Go.WideShapes Go.ChangeAt in
set_option maxRecDepth 100000 in
theorem Open.seals {H : Type} {enc : TypeId × Value → H} {W : World} {b0 : Nat} {v : Value} {d : DataW H} {p : List MemPlace} (hv : Value.okWide Try.prog W .any b0 38 v)
    (h : DataW.Trod enc Try.prog W 0 (fun _ => true) true 38 v d p) : ∃ xs, GS W v xs := by
  obtain ⟨a0, len0, cap0, rfl⟩ := okWide_slice Try.underlying38 hv
  obtain ⟨fuel, hf⟩ := h
  rcases Deep.open_slice Try.underlying38 hf with ⟨hcs, _⟩ | ⟨a, len, cap, m, n, D, Pl, hcs, _, hl, hm, hmm, _, hx⟩
  · simp [Value.cells] at hcs
    obtain ⟨rfl, rfl, rfl⟩ := hcs
    exact ⟨[], GS_nil W⟩
  · simp [Value.cells] at hcs
    obtain ⟨rfl, rfl, rfl⟩ := hcs
    have hm' : m = cap0 := by simpa using hmm
    have hcell : Try.prog.cellsOf 27 = 66 := by kernel_rfl
    rw [hcell] at hx
    obtain ⟨f, hff⟩ := Deep.choose_lt (α := Sl) (n := len0) (p := fun i x => x.ok ∧ ∀ j, j < 66 → W.cell? ((a.add (i * 66)).add j) = x.cells[j]?) (fun i hi => by
      obtain ⟨cs', hc, ht⟩ := hx i (by omega)
      obtain ⟨x, rfl, hok, -⟩ := Open.cells_seal ht
      exact ⟨x, hok, fun j hj => (World.cells?_some hc).2.2 j hj⟩)
    have hlen : ((List.range len0).map f).length = len0 := by simp
    refine ⟨(List.range len0).map f, ?_, .inr ⟨a, cap0, by rw [hlen], ⟨by rw [hlen]; exact hl, by unfold maxLen at hm; omega⟩, fun h0 => ?_⟩⟩
    · intro x hx
      obtain ⟨i, hi, rfl⟩ := List.mem_map.1 hx
      exact (hff i (List.mem_range.1 hi)).1
    · rw [hlen] at h0
      obtain ⟨b, off, spot⟩ := a
      have hc0 := (hff 0 h0).2 0 (by omega)
      have hspot : spot = none := by
        have h1 : (f 0).cells[0]? = some (.int .i64 (f 0).s) := rfl
        rw [h1] at hc0
        simpa [Addr.add] using World.cell?_spot hc0
      subst hspot
      refine ⟨b, off, rfl, fun i x hx => ?_⟩
      have hi : i < len0 := by have := (List.getElem?_eq_some_iff.1 hx).1; rw [hlen] at this; exact this
      have e : f i = x := by simpa [hi] using hx
      subst e
      intro j v hj
      have hj66 : j < 66 := by
        have := (List.getElem?_eq_some_iff.1 hj).1
        unfold Sl.cells at this
        rw [sealC_len _ _ _ _ (hff i hi).1.1 (hff i hi).1.2] at this
        exact this
      have := (hff i hi).2 j hj66
      rw [Deep.add_add, Addr.add_mid, ← Nat.add_assoc] at this
      rw [this]; exact hj
/-! ## How a slice of sums reads -/
open Go.ChangeShapes Go.WideShapes Go.ChangeAt in
set_option maxRecDepth 100000 in
theorem Open.sums {H : Type} {enc : TypeId × Value → H} {W : World} {b0 : Nat} {v : Value} {d : DataW H} {p : List MemPlace} (hv : Value.okWide Try.prog W .any b0 22 v)
    (h : DataW.Trod enc Try.prog W 0 (fun _ => true) true 22 v d p) : ∃ ls, HS W v ls := by
  obtain ⟨a0, len0, cap0, rfl⟩ := okWide_slice Try.underlying22 hv
  obtain ⟨fuel, hf⟩ := h
  rcases Deep.open_slice Try.underlying22 hf with ⟨hcs, _⟩ | ⟨a, len, cap, m, n, D, Pl, hcs, _, hl, hm, hmm, _, hx⟩
  · simp [Value.cells] at hcs
    obtain ⟨rfl, rfl, rfl⟩ := hcs
    exact ⟨[], HS_nil W⟩
  · simp [Value.cells] at hcs
    obtain ⟨rfl, rfl, rfl⟩ := hcs
    have hm' : m = cap0 := by simpa using hmm
    have hcell : Try.prog.cellsOf 23 = 32 := by kernel_rfl
    rw [hcell] at hx
    obtain ⟨f, hff⟩ := Deep.choose_lt (α := List UInt8) (n := len0) (p := fun i l => l.length = 32 ∧ ∀ j, j < 32 → W.cell? ((a.add (i * 32)).add j) = (enc8 l)[j]?) (fun i hi => by
      obtain ⟨cs', hc, ht⟩ := hx i (by omega)
      obtain ⟨l, rfl, hl32⟩ := Open.cells_sum ht
      exact ⟨l, hl32, fun j hj => (World.cells?_some hc).2.2 j hj⟩)
    have hlen : ((List.range len0).map f).length = len0 := by simp
    refine ⟨(List.range len0).map f, ?_, .inr ⟨a, cap0, by rw [hlen], ⟨by rw [hlen]; exact hl, by unfold maxLen at hm; omega⟩, fun h0 => ?_⟩⟩
    · intro x hx
      obtain ⟨i, hi, rfl⟩ := List.mem_map.1 hx
      exact (hff i (List.mem_range.1 hi)).1
    · rw [hlen] at h0
      obtain ⟨b, off, spot⟩ := a
      have hc0 := (hff 0 h0).2 0 (by omega)
      have hspot : spot = none := by
        have h1 := enc8_get (f 0) 0 (by rw [(hff 0 h0).1]; omega)
        rw [h1] at hc0
        simpa [Addr.add] using World.cell?_spot hc0
      subst hspot
      refine ⟨b, off, rfl, fun i hi => ?_⟩
      rw [hlen] at hi
      have e : ((List.range len0).map f)[i]?.getD [] = f i := by simp [hi]
      rw [e]
      intro j v hj
      have hj32 : j < 32 := by
        have := (List.getElem?_eq_some_iff.1 hj).1
        rw [enc8_len, (hff i hi).1] at this
        exact this
      have := (hff i hi).2 j hj32
      rw [Deep.add_add, Addr.add_mid, ← Nat.add_assoc] at this
      rw [this]; exact hj
end Go.Proofs.Ytnepmhdnkcnnmaa

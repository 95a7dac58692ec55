/- How this seat's arguments read: an item, items, acts. -/
import Derived.ProofKit
import Derived.OpenShut
import Derived.Deep.Slices
import Derived.Deep.SlicePairs
import Derived.Lib.SmallJoins
import Derived.Test.YtlgmocmekmppeaaDuC
import Derived.Test.YtlgmocmekmppeaaFrC
set_option linter.unusedVariables false
namespace Go.Proofs.Ytlgmocmekmppeaa
open Go Go.RowKit Go.ChangeShapes Go.WideShapes Go.ChangeAt

def in64 (a : Int) : Prop := -9223372036854775808 ≤ a ∧ a ≤ 9223372036854775807
theorem in64_of {a : Int} (h : (Lit.int .i64 a).wf = true) : in64 a := by
  simp [Lit.wf, IntKind.min, IntKind.max, IntKind.signed, IntKind.bits] at h
  unfold in64
  omega

set_option maxRecDepth 100000 in
theorem Open.item {H : Type} {enc : TypeId × Value → H} {W : World} {b0 : Nat} {v : Value} {d : DataW H} {p : List MemPlace} (hv : Value.okWide Try.prog W .any b0 50 v)
    (h : DataW.Trod enc Try.prog W 0 (fun _ => true) true 50 v d p) : ∃ x : Item, v = .agg #[.int .i64 x.1, .int .i64 x.2] := by
  obtain ⟨v0, v1, y0, y1, n, rfl, -, -, h0, h1⟩ := Go.Joins.open_agg2 Try.underlying50 (by kernel_rfl) (by kernel_rfl) hv h
  obtain ⟨a, ha, -, wa⟩ := DataW.trod_int Try.underlying2 h0
  obtain ⟨b, hb, -, wb⟩ := DataW.trod_int Try.underlying2 h1
  simp at ha hb
  exact ⟨(a, b), by rw [ha, hb]⟩

/-- items that are read: where they lie -/
def IV (W : World) (v : Value) (xs : List Item) : Prop := (v = .slice none 0 0 ∧ xs = []) ∨
  ∃ a c, v = .slice (some a) xs.length c ∧ (xs.length ≤ c ∧ c ≤ 9223372036854775807) ∧ (0 < xs.length → ∃ b off, a = ⟨b, off, none⟩ ∧ ∀ i, i < xs.length → W.cell? ⟨b, off + i * 2, none⟩ = some (.int .i64 (itA xs i)) ∧ W.cell? ⟨b, off + i * 2 + 1, none⟩ = some (.int .i64 (itB xs i)) ∧ in64 (itA xs i) ∧ in64 (itB xs i))

set_option maxRecDepth 100000 in
theorem Open.items {H : Type} {enc : TypeId × Value → H} {W : World} {b0 : Nat} {v : Value} {d : DataW H} {p : List MemPlace} (hv : Value.okWide Try.prog W .any b0 46 v)
    (h : DataW.Trod enc Try.prog W 0 (fun _ => true) true 46 v d p) : ∃ xs, IV W v xs := by
  obtain ⟨a0, len0, cap0, rfl⟩ := okWide_slice Try.underlying46 hv
  obtain ⟨fuel, hf⟩ := h
  rcases Deep.open_slice_pairs Try.underlying46 Try.underlying50 (by kernel_rfl) rfl rfl (by kernel_rfl) (by kernel_rfl) hf with ⟨hcs, _⟩ | ⟨a, len, cap, m, n, V0, V1, D0, D1, P0, P1, hcs, _, hl, hm, hmm, _, hx⟩
  · simp [Value.cells] at hcs
    obtain ⟨rfl, rfl, rfl⟩ := hcs
    exact ⟨[], .inl ⟨rfl, rfl⟩⟩
  · simp [Value.cells] at hcs
    obtain ⟨rfl, rfl, rfl⟩ := hcs
    have hm' : m = cap0 := by simpa using hmm
    obtain ⟨f, hff⟩ := Deep.choose_lt (α := Item) (n := len0) (p := fun i x => V0 i = .int .i64 x.1 ∧ V1 i = .int .i64 x.2 ∧ in64 x.1 ∧ in64 x.2) (fun i hi => by
      obtain ⟨_, _, h0, h1⟩ := hx i (by omega)
      obtain ⟨p, hp, -, wp⟩ := DataW.trod_int Try.underlying2 h0
      obtain ⟨q, hq, -, wq⟩ := DataW.trod_int Try.underlying2 h1
      simp at hp hq
      exact ⟨(p, q), hp, hq, in64_of wp, in64_of wq⟩)
    have hlen : ((List.range len0).map f).length = len0 := by simp
    refine ⟨(List.range len0).map f, .inr ⟨a, cap0, by rw [hlen], ⟨by rw [hlen]; exact hl, by unfold maxLen at hm; omega⟩, fun h0 => ?_⟩⟩
    rw [hlen] at h0
    obtain ⟨b, off, spot⟩ := a
    have hc0 := (hx 0 (by omega)).1
    have hspot : spot = none := by simpa [Addr.add] using World.cell?_spot hc0
    subst hspot
    refine ⟨b, off, rfl, fun i hi => ?_⟩
    rw [hlen] at hi
    obtain ⟨c0, c1, _, _⟩ := hx i (by omega)
    obtain ⟨e0, e1, b1, b2⟩ := hff i hi
    have hplain : ∀ k, (⟨b, off, none⟩ : Addr).add k = ⟨b, off + k, none⟩ := fun k => by unfold Addr.add; split <;> simp_all
    rw [hplain] at c0 c1
    have eA : itA ((List.range len0).map f) i = (f i).1 := by simp [itA, hi]
    have eB : itB ((List.range len0).map f) i = (f i).2 := by simp [itB, hi]
    rw [eA, eB]
    exact ⟨by rw [c0, e0], by rw [Nat.add_assoc, c1, e1], b1, b2⟩
end Go.Proofs.Ytlgmocmekmppeaa

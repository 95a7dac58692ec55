/- How this seat's arguments read: acts. -/
import Derived.Deep.Strs
import Derived.Test.YtlgmocmekmppeaaDuOpen
set_option linter.unusedVariables false
namespace Go.Proofs.Ytlgmocmekmppeaa
open Go Go.RowKit Go.ChangeShapes Go.WideShapes Go.ChangeAt

structure ActV where
  pop : Bool
  x : Int
  y : Int
  now : Int
instance : Inhabited ActV := ⟨⟨false, 0, 0, 0⟩⟩
def acAt (l : List ActV) (i : Nat) : ActV := l[i]?.getD ⟨false, 0, 0, 0⟩
/-- acts that are read: where they lie -/
def AV (W : World) (v : Value) (l : List ActV) : Prop := ∃ A c, v = .slice A l.length c ∧ (l.length ≤ c ∧ c ≤ 9223372036854775807) ∧ ∀ i, i < l.length → ∃ b off, A = some ⟨b, off, none⟩ ∧
  W.cell? ⟨b, off + i * 4, none⟩ = some (.bool (acAt l i).pop) ∧ W.cell? ⟨b, off + i * 4 + 1, none⟩ = some (.int .i64 (acAt l i).x) ∧ W.cell? ⟨b, off + i * 4 + 2, none⟩ = some (.int .i64 (acAt l i).y) ∧ W.cell? ⟨b, off + i * 4 + 3, none⟩ = some (.int .i64 (acAt l i).now)
theorem list_four {cs : List Value} (h : cs.length = 4) : ∃ c0 c1 c2 c3, cs = [c0, c1, c2, c3] := by
  match cs, h with
  | [a, b, c, d], _ => exact ⟨a, b, c, d, rfl⟩
set_option maxRecDepth 100000 in
theorem Open.acts {H : Type} {enc : TypeId × Value → H} {W : World} {b0 : Nat} {v : Value} {d : DataW H} {p : List MemPlace} (hv : Value.okWide Try.prog W .any b0 42 v)
    (h : DataW.Trod enc Try.prog W 0 (fun _ => true) true 42 v d p) : ∃ l, AV W v l := by
  obtain ⟨a0, len0, cap0, rfl⟩ := okWide_slice Try.underlying42 hv
  obtain ⟨fuel, hf⟩ := h
  rcases Deep.open_slice Try.underlying42 hf with ⟨hcs, _⟩ | ⟨a, len, cap, m, n, D, Pl, hcs, _, hl, hm, hmm, _, hx⟩
  · simp [Value.cells] at hcs
    obtain ⟨rfl, rfl, rfl⟩ := hcs
    exact ⟨[], none, 0, rfl, by simp, fun i hi => absurd hi (Nat.not_lt_zero _)⟩
  · simp [Value.cells] at hcs
    obtain ⟨rfl, rfl, rfl⟩ := hcs
    have hm' : m = cap0 := by simpa using hmm
    have ce : Try.prog.cellsOf 52 = 4 := by kernel_rfl
    have cb : Try.prog.cellsOf 4 = 1 := by kernel_rfl
    have ci : Try.prog.cellsOf 2 = 1 := by kernel_rfl
    have cx : Try.prog.cellsOf 50 = 2 := by kernel_rfl
    rw [ce] at hx
    obtain ⟨f, hff⟩ := Deep.choose_lt (α := ActV) (n := len0) (p := fun i x => W.cell? (a.add (i * 4)) = some (.bool x.pop) ∧ W.cell? ((a.add (i * 4)).add 1) = some (.int .i64 x.x) ∧ W.cell? ((a.add (i * 4)).add 2) = some (.int .i64 x.y) ∧ W.cell? ((a.add (i * 4)).add 3) = some (.int .i64 x.now)) (fun i hi => by
      obtain ⟨cs, hcs, ht⟩ := hx i (by omega)
      obtain ⟨_, hlen, hget⟩ := World.cells?_some hcs
      obtain ⟨c0, c1, c2, c3, rfl⟩ := list_four hlen
      obtain ⟨y0, y1, y2, n2, -, -, h0, h1, h2⟩ := Deep.trod_struct3 Try.underlying52 ht
      obtain ⟨b, hb, -⟩ := DataW.trod_bool Try.underlying4 h0
      obtain ⟨z0, z1, n3, -, -, g0, g1⟩ := trod_struct2 Try.underlying50 h1
      obtain ⟨x1, hx1, -, -⟩ := DataW.trod_int Try.underlying2 g0
      obtain ⟨x2, hx2, -, -⟩ := DataW.trod_int Try.underlying2 g1
      obtain ⟨x3, hx3, -, -⟩ := DataW.trod_int Try.underlying2 h2
      simp [cb, ci, cx] at hb hx1 hx2 hx3
      have g0 := hget 0 (by omega)
      have g1 := hget 1 (by omega)
      have g2 := hget 2 (by omega)
      have g3 := hget 3 (by omega)
      refine ⟨⟨b, x1, x2, x3⟩, ?_, ?_, ?_, ?_⟩
      · have : (a.add (i * 4)).add 0 = a.add (i * 4) := by unfold Addr.add; split <;> simp_all
        rw [this] at g0
        rw [g0, hb]; rfl
      · rw [g1, hx1]; rfl
      · rw [g2, hx2]; rfl
      · rw [g3, hx3]; rfl)
    have hlen : ((List.range len0).map f).length = len0 := by simp
    refine ⟨(List.range len0).map f, some a, cap0, by rw [hlen], ⟨by rw [hlen]; exact hl, by unfold maxLen at hm; omega⟩, fun i hi => ?_⟩
    rw [hlen] at hi
    obtain ⟨k0, k1, k2, k3⟩ := hff i hi
    obtain ⟨b, off, spot⟩ := a
    have hspot : spot = none := by simpa [Addr.add] using World.cell?_spot (hff 0 (by omega)).1
    subst hspot
    have hplain : ∀ o k, (⟨b, o, none⟩ : Addr).add k = ⟨b, o + k, none⟩ := fun o k => by unfold Addr.add; split <;> simp_all
    simp only [hplain] at k0 k1 k2 k3
    have eA : acAt ((List.range len0).map f) i = f i := by simp [acAt, hi]
    rw [eA]
    exact ⟨b, off, rfl, k0, k1, k2, k3⟩
end Go.Proofs.Ytlgmocmekmppeaa

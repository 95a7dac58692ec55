/- How this seat's arguments read: bytes, lists of bytes. -/
import Derived.ProofKit
import Derived.OpenShut
import Derived.Deep.Slices
import Derived.Test.YtlgmocmekmppeaaFrC
set_option linter.unusedVariables false
namespace Go.Proofs.Ytlgmocmekmppeaa
open Go Go.RowKit Go.ChangeShapes Go.WideShapes Go.ChangeAt

theorem Open.cells_bytes {H : Type} {enc : TypeId × Value → H} {W : World} {fuel : Nat} {v : Value} {x : DataW H × List MemPlace}
    (h : DataW.trod enc Try.prog W 0 (fun _ => true) true fuel 22 [v] = some x) : ∃ l, SB W v l := by
  rcases open_ints Try.underlying22 Try.underlying5 (by kernel_rfl) h with ⟨hcs, _⟩ | ⟨a, len, c, zs, hcs, _, hl, hm, hz, _, hcell, hwz⟩
  · simp at hcs
    exact ⟨[], .inl ⟨hcs, rfl⟩⟩
  · simp at hcs
    subst hcs
    have hz' : zs.length = c := by simpa using hz
    have hlen : ((zs.take len).map fun n => UInt8.ofNat n.toNat).length = len := by simp; omega
    refine ⟨(zs.take len).map fun n => UInt8.ofNat n.toNat, .inr ⟨a, c, by rw [hlen], by omega, by unfold maxLen at hm; omega, fun h0 => ?_⟩⟩
    rw [hlen] at h0
    obtain ⟨b, off, rfl, hc⟩ := ints_at hcell (by omega)
    refine ⟨b, off, rfl, fun i hi => ?_⟩
    rw [hlen] at hi
    have hci := hcell i (by omega)
    have hplain : (⟨b, off, none⟩ : Addr).add i = ⟨b, off + i, none⟩ := by unfold Addr.add; split <;> simp_all
    rw [hplain] at hci
    rw [hci]
    have hw := hwz (zs.getD i 0) (by rw [List.getD, List.getElem?_eq_getElem (show i < zs.length by omega)]; exact List.getElem_mem _)
    have hb := bounds_u8 hw
    unfold gb
    have e : ((zs.take len).map fun n => UInt8.ofNat n.toNat)[i]? = some (UInt8.ofNat (zs.getD i 0).toNat) := by
      rw [List.getElem?_map, List.getElem?_take_of_lt hi, List.getElem?_eq_getElem (show i < zs.length by omega), List.getD, List.getElem?_eq_getElem (show i < zs.length by omega)]
      rfl
    rw [e]
    simp only [Option.getD_some]
    congr 2
    rw [UInt8.toNat_ofNat']
    omega

set_option maxRecDepth 100000 in
theorem Open.bytes {H : Type} {enc : TypeId × Value → H} {W : World} {b0 : Nat} {v : Value} {d : DataW H} {p : List MemPlace} (hv : Value.okWide Try.prog W .any b0 22 v)
    (h : DataW.Trod enc Try.prog W 0 (fun _ => true) true 22 v d p) : ∃ l, SB W v l := by
  obtain ⟨a0, len0, cap0, rfl⟩ := okWide_slice Try.underlying22 hv
  obtain ⟨fuel, hf⟩ := h
  exact Open.cells_bytes (by simpa [Value.cells] using hf)

set_option maxRecDepth 100000 in
theorem Open.bytess {H : Type} {enc : TypeId × Value → H} {W : World} {b0 : Nat} {v : Value} {d : DataW H} {p : List MemPlace} (hv : Value.okWide Try.prog W .any b0 35 v)
    (h : DataW.Trod enc Try.prog W 0 (fun _ => true) true 35 v d p) : ∃ ls, SS W v ls := by
  obtain ⟨a0, len0, cap0, rfl⟩ := okWide_slice Try.underlying35 hv
  obtain ⟨fuel, hf⟩ := h
  rcases Deep.open_slice1 Try.underlying35 (by kernel_rfl) hf with ⟨hcs, _⟩ | ⟨a, len, cap, m, n, V, D, Pl, hcs, _, hl, hm, hmm, _, hx⟩
  · simp [Value.cells] at hcs
    obtain ⟨rfl, rfl, rfl⟩ := hcs
    exact ⟨[], .inl ⟨rfl, rfl⟩⟩
  · simp [Value.cells] at hcs
    obtain ⟨rfl, rfl, rfl⟩ := hcs
    have hm' : m = cap0 := by simpa using hmm
    obtain ⟨f, hff⟩ := Deep.choose_lt (α := List UInt8) (n := len0) (p := fun i l => SB W (V i) l) (fun i hi => Open.cells_bytes (hx i (by omega)).2)
    have hlen : ((List.range len0).map f).length = len0 := by simp
    refine ⟨(List.range len0).map f, .inr ⟨a, cap0, by rw [hlen], ⟨by rw [hlen]; exact hl, by unfold maxLen at hm; omega⟩, fun h0 => ?_⟩⟩
    rw [hlen] at h0
    obtain ⟨b, off, spot⟩ := a
    have hc0 := (hx 0 (by omega)).1
    have hspot : spot = none := by simpa [Addr.add] using World.cell?_spot hc0
    subst hspot
    refine ⟨b, off, rfl, fun i hi => ⟨V i, ?_, ?_⟩⟩
    · rw [hlen] at hi
      have hci := (hx i (by omega)).1
      have hplain : (⟨b, off, none⟩ : Addr).add i = ⟨b, off + i, none⟩ := by unfold Addr.add; split <;> simp_all
      rwa [hplain] at hci
    · rw [hlen] at hi
      have : ((List.range len0).map f)[i]?.getD [] = f i := by simp [hi]
      rw [this]
      exact hff i hi
end Go.Proofs.Ytlgmocmekmppeaa

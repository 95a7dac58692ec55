/- lists of lists; few; awake; the arguments. -/
import Derived.RangeFuncNested
import Derived.RangeFuncBound
import Derived.RangeFuncCalls
import Derived.RangeFuncLeaves
import Derived.Shelf.Abstract
import Derived.Shelf.RegionOpen
import Derived.WalkKit
import Derived.OwnWalkIn
import Derived.TacticsInMore
import Derived.LoopNIn
import Derived.LoopIn
import Derived.Outline
import Derived.Lib.Hide
import Derived.Lib.SliceRun
import Derived.IntWalk
import Derived.WalkLawsBesides
import Derived.WalkSpells
import Derived.Laws.BitsAllLaws
import Derived.Lib.ConvBytes
import Derived.Maps.AppendAt
import Derived.Lib.AppendStr
import Derived.Lib.SlBytesConst
import Derived.Laws.AppendOwnNone
import Derived.Laws.OwnMore
import Derived.Laws.BytesArg
import Derived.Deep.RegionHeld3
import Derived.BigQuiet
import Derived.Deep.RegionLaw
import Derived.Deep.QuietTactic
import Derived.Lib.OthersKept
import Derived.Test.YtlgodokgebjjaaaProg
import Derived.Deep.DeepFit
import Derived.Test.YtlgodokgebjjaaaPoF
set_option linter.unusedVariables false
set_option linter.unusedSimpArgs false
namespace Go.Proofs.Ytlgodokgebjjaaa
open Go Go.RowKit Go.Shelf

/-- a slice of slices of numbers -/
def SI (W : World) (v : Value) (ls : List (List Int)) : Prop := ∃ A c, v = .slice A ls.length c ∧ (ls.length ≤ c ∧ c ≤ 9223372036854775807) ∧ ∀ i (h : i < ls.length), ∃ g o x, A = some ⟨g, o, none⟩ ∧ W.cell? ⟨g, o + i, none⟩ = some x ∧ NS W x ls[i]
theorem SI.below {W W' : World} {v : Value} {l : List (List Int)} (h : SI W v l) (hb : Below W.heap.size W W') : SI W' v l := by
  obtain ⟨A, c, rfl, h1, h2⟩ := h
  refine ⟨A, c, rfl, h1, fun i hi => ?_⟩
  obtain ⟨g, o, x, e, hc, hx⟩ := h2 i hi
  exact ⟨g, o, x, e, (hb.cell (p := ⟨g, o + i, none⟩) (World.block_lt_of_cell? W _ hc)).trans hc, hx.below hb⟩
theorem SI.nil (W : World) : SI W (.slice none 0 0) [] := ⟨none, 0, rfl, by simp, fun i h => by simp at h⟩
/-- a literal -/
theorem SI_lit (W : World) (vs : List Value) (ls : List (List Int)) (n : Nat) (hn : n = ls.length) (t : TypeId) (hl : vs.length = ls.length) (hm : ls.length ≤ 1000) (h : ∀ i (h : i < ls.length), NS W (vs[i]'(by omega)) ls[i]) :
    SI (W.alloc (.cells vs.toArray t)) (.slice (some ⟨W.heap.size, 0, none⟩) n n) ls := by
  subst hn
  refine ⟨_, _, rfl, ⟨Nat.le_refl _, by omega⟩, fun i hi => ⟨_, 0, vs[i]'(by omega), rfl, ?_, (h i hi).below ((Below.refl _ _).alloc (Nat.le_refl _) _)⟩⟩
  simp only [Nat.zero_add]
  rw [World.cell?, heap_alloc_new]
  simp [hl, hi]
theorem SI.at_ {W : World} {A : Option Addr} {n c : Nat} {l : List (List Int)} (h : SI W (.slice A n c) l) (hn : n = l.length) : ∀ k (hk : k < l.length), ∃ g o B d, A = some ⟨g, o, none⟩ ∧ W.cell? ⟨g, o + k, none⟩ = some (.slice B l[k].length d) ∧ NS W (.slice B l[k].length d) l[k] := by
  intro k hk
  obtain ⟨A', c', e, h1, h2⟩ := h
  cases e
  obtain ⟨g, o, x, rfl, hc, hx⟩ := h2 k hk
  obtain ⟨B, d, rfl, -⟩ := id hx
  exact ⟨g, o, B, d, rfl, hc, hx⟩
def fewB (ls : List (List Int)) : Bool := decide (ls.length ≤ 20) && ls.all fun l => decide (l.length ≤ 100)
theorem fewB_iff (ls : List (List Int)) : fewB ls = true ↔ ls.length ≤ 20 ∧ ∀ l ∈ ls, l.length ≤ 100 := by simp [fewB]
set_option maxRecDepth 100000 in
set_option maxHeartbeats 2000000 in
/-- **few** -/
theorem few18_any (v : Value) (ls : List (List Int)) (w : World) (h : SI w v ls) : Calls Try.prog 23 #[v] w fun e w' => e = .returned (.bool (fewB ls)) ∧ w' = w := by
  obtain ⟨A, c, rfl, hc, -⟩ := id h
  have hU := h.at_ rfl
  obtain ⟨n, hn⟩ : ∃ n, ls.length = n := ⟨_, rfl⟩
  have HB := Lib.hid (fewB_iff ls)
  obtain ⟨R, hR⟩ : ∃ R, fewB ls = R := ⟨_, rfl⟩
  rw [hR] at HB ⊢
  have HU := Lib.hid hU
  have HN := Lib.hid hn
  rw [hn] at hc ⊢
  clear h hU hn hR
  by_cases h20 : 20 < n
  · have q1 : decide ((20 : Int) < (n : Int)) = true := decide_eq_true (by omega)
    have q2 : decide (20 < n) = true := decide_eq_true h20
    have hr : R = false := Bool.eq_false_iff.2 fun e => by have := (HB.out.1 e).1; rw [HN.out] at this; omega
    subst hr
    go_enter Try.func23, Try.ntmps23
    go_wp2
    go_ret
    exact ⟨rfl, rfl⟩
  · have q1 : decide ((20 : Int) < (n : Int)) = false := decide_eq_false (by omega)
    have q2 : decide (20 < n) = false := decide_eq_false h20
    go_enter Try.func23, Try.ntmps23
    go_wp2
    go_loop [10] (fun i => ∃ k : Nat, (i = .int .i64 (k : Int) ∧ k ≤ n) ∧ Hid (∀ j (h : j < ls.length), j < k → ls[j].length ≤ 100)) (fun i => n - (intOf i).toNat)
    case atStart => exact ⟨0, ⟨rfl, Nat.zero_le _⟩, fun j h1 h2 => by omega⟩
    case round =>
      obtain ⟨k, ⟨rfl, hk⟩, hup⟩ := hrel
      by_cases hlt : k < n
      · have hkl : k < ls.length := by rw [HN.out]; exact hlt
        obtain ⟨g, o, B, d, rfl, c1, -⟩ := HU.out k hkl
        obtain ⟨m, hm⟩ : ∃ m, ls[k].length = m := ⟨_, rfl⟩
        rw [hm] at c1
        have HM := Lib.hid hm
        have d0 : decide (k < n) = true := decide_eq_true hlt
        have d1 : decide ((k : Int) < (n : Int)) = true := decide_eq_true (by omega)
        have k0 : (0 : Int) ≤ (k : Int) := by omega
        have k1 : (k : Int) < (n : Int) := by omega
        clear hm
        by_cases hm : 100 < m
        · have q3 : decide ((100 : Int) < (m : Int)) = true := decide_eq_true (by omega)
          have q4 : decide (100 < m) = true := decide_eq_true hm
          have hr : R = false := Bool.eq_false_iff.2 fun e => by have := (HB.out.1 e).2 _ (List.getElem_mem hkl); have := HM.out; omega
          subst hr
          go_wp2
          go_ret
          exact ⟨rfl, rfl⟩
        · have q3 : decide ((100 : Int) < (m : Int)) = false := decide_eq_false (by omega)
          have q4 : decide (100 < m) = false := decide_eq_false hm
          have hnx : Hid (∀ j (h : j < ls.length), j < k + 1 → ls[j].length ≤ 100) := fun j h1 h2 => by
            by_cases e : j = k
            · subst e; have := HM.out; omega
            · exact hup.out j h1 (by omega)
          go_wp2
          go_round
          case rel => exact ⟨k + 1, ⟨by go_num, by omega⟩, hnx⟩
          case measure => simp [intOf]; omega
      · have d0 : decide (k < n) = false := decide_eq_false hlt
        have d1 : decide ((k : Int) < (n : Int)) = false := decide_eq_false (by omega)
        have hr : R = true := HB.out.2 ⟨by rw [HN.out]; omega, fun l hl => by
          obtain ⟨j, hj, rfl⟩ := List.mem_iff_getElem.1 hl
          exact hup.out j hj (by have := HN.out; omega)⟩
        subst hr
        go_wp2
        go_ret
        exact ⟨rfl, rfl⟩
open Go.ChangeShapes Go.WideShapes Go.ChangeAt in
theorem Open.cells_ints {H : Type} {enc : TypeId × Value → H} {W : World} {fuel : Nat} {v : Value} {x : DataW H × List MemPlace}
    (h : DataW.trod enc Try.prog W 0 (fun _ => true) true fuel 34 [v] = some x) : ∃ l, NS W v l := by
  rcases open_ints Try.underlying34 Try.underlying2 (by kernel_rfl) h with ⟨hcs, _⟩ | ⟨a, len, c, zs, hcs, _, hl, hm, hz, _, hcell, hwz⟩
  · simp at hcs
    subst hcs
    exact ⟨[], none, 0, rfl, by simp, fun i h => by simp at h⟩
  · simp at hcs
    subst hcs
    have hz' : zs.length = c := by simpa using hz
    have hlen : (zs.take len).length = len := by simp; omega
    refine ⟨zs.take len, a, c, by rw [hlen], by unfold maxLen at hm; omega, fun i hi => ?_⟩
    rw [hlen] at hi
    obtain ⟨b, off, rfl, hc⟩ := ints_at hcell (by omega)
    refine ⟨b, off, rfl, ?_⟩
    have hci := hcell i (by omega)
    have hplain : (⟨b, off, none⟩ : Addr).add i = ⟨b, off + i, none⟩ := by unfold Addr.add; split <;> simp_all
    rw [hplain] at hci
    rw [hci, List.getElem_take, List.getD, List.getElem?_eq_getElem (show i < zs.length by omega)]
    rfl
open Go.ChangeShapes Go.WideShapes Go.ChangeAt in
set_option maxRecDepth 100000 in
theorem Open.ints {H : Type} {enc : TypeId × Value → H} {W : World} {b0 : Nat} {v : Value} {d : DataW H} {p : List MemPlace} (hv : Value.okWide Try.prog W .any b0 34 v)
    (h : DataW.Trod enc Try.prog W 0 (fun _ => true) true 34 v d p) : ∃ l, NS W v l := by
  obtain ⟨a0, len0, cap0, rfl⟩ := okWide_slice Try.underlying34 hv
  obtain ⟨fuel, hf⟩ := h
  exact Open.cells_ints (by simpa [Value.cells] using hf)
open Go.ChangeShapes Go.WideShapes Go.ChangeAt in
set_option maxRecDepth 100000 in
theorem Open.intss {H : Type} {enc : TypeId × Value → H} {W : World} {b0 : Nat} {v : Value} {d : DataW H} {p : List MemPlace} (hv : Value.okWide Try.prog W .any b0 41 v)
    (h : DataW.Trod enc Try.prog W 0 (fun _ => true) true 41 v d p) : ∃ ls, SI W v ls := by
  obtain ⟨a0, len0, cap0, rfl⟩ := okWide_slice Try.underlying41 hv
  obtain ⟨fuel, hf⟩ := h
  rcases Deep.open_slice1 Try.underlying41 (by kernel_rfl) hf with ⟨hcs, _⟩ | ⟨a, len, cap, m, n, V, D, Pl, hcs, _, hl, hm, hmm, _, hx⟩
  · simp [Value.cells] at hcs
    obtain ⟨rfl, rfl, rfl⟩ := hcs
    exact ⟨[], SI.nil W⟩
  · simp [Value.cells] at hcs
    obtain ⟨rfl, rfl, rfl⟩ := hcs
    have hm' : m = cap0 := by simpa using hmm
    obtain ⟨f, hff⟩ := Deep.choose_lt (α := List Int) (n := len0) (p := fun i l => NS W (V i) l) (fun i hi => Open.cells_ints (hx i (by omega)).2)
    have hlen : ((List.range len0).map f).length = len0 := by simp
    refine ⟨(List.range len0).map f, a, cap0, by rw [hlen], ⟨by rw [hlen]; exact hl, by unfold maxLen at hm; omega⟩, fun i hi => ?_⟩
    rw [hlen] at hi
    obtain ⟨b, off, spot⟩ := a
    have hci := (hx i (by omega)).1
    have hspot : spot = none := by
      have := World.cell?_spot (hx 0 (by omega)).1
      simpa [Addr.add] using this
    subst hspot
    have hplain : (⟨b, off, none⟩ : Addr).add i = ⟨b, off + i, none⟩ := by unfold Addr.add; split <;> simp_all
    rw [hplain] at hci
    refine ⟨b, off, V i, rfl, hci, ?_⟩
    have : ((List.range len0).map f)[i]'(by simpa using hi) = f i := by simp
    rw [this]
    exact hff i hi
end Go.Proofs.Ytlgodokgebjjaaa

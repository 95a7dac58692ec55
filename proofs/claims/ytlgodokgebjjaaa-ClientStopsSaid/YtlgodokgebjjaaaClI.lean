/- What stands in memory while codes come. -/
import Derived.RangeFuncNested
import Derived.RangeFuncBound
import Derived.RangeFuncCalls
import Derived.RangeFuncLeaves
import Derived.Shelf.Abstract
import Derived.Shelf.RegionOpen
import Derived.WalkKit
import Derived.OwnWalkIn
import Derived.TacticsInMore
import Derived.LoopNIn
import Derived.LoopIn
import Derived.Outline
import Derived.Lib.Hide
import Derived.Lib.SliceRun
import Derived.IntWalk
import Derived.WalkLawsBesides
import Derived.WalkSpells
import Derived.Laws.BitsAllLaws
import Derived.Lib.ConvBytes
import Derived.Maps.AppendAt
import Derived.Lib.AppendStr
import Derived.Lib.SlBytesConst
import Derived.Laws.AppendOwnNone
import Derived.Laws.OwnMore
import Derived.Laws.BytesArg
import Derived.Deep.RegionHeld3
import Derived.BigQuiet
import Derived.Deep.RegionLaw
import Derived.Deep.QuietTactic
import Derived.Lib.OthersKept
import Derived.Test.YtlgodokgebjjaaaProg
import Derived.Deep.DeepFit
import Derived.Test.YtlgodokgebjjaaaClG
import Derived.Test.YtlgodokgebjjaaaRegJ
set_option linter.unusedVariables false
set_option linter.unusedSimpArgs false
namespace Go.Proofs.Ytlgodokgebjjaaa
open Go Go.RowKit Go.Shelf
open Go.Proofs (encStr)
attribute [local go_sem] Oper.semAt_some

theorem OB.form_slice {w : World} {B : Nat} {v : Value} {l : List UInt8} (h : OB w B v l) : ∃ A n c, v = .slice A n c := by
  obtain ⟨A, c, e, -⟩ := h.reads.form
  exact ⟨A, _, c, e⟩
theorem Boxed.ne_row {w : World} {g : Nat} {us : Nat → Value} {v : Value} {t t' : TypeId} (hb : Boxed w g t v) (hr : Row w g t' (rowX us)) : False := by
  have h1 : w.heap[g]? = _ := hb
  have h2 : w.heap[g]? = _ := hr
  rw [h1] at h2
  have := congrArg (fun o => match o with | some (Obj.cells c _ _) => c.size | _ => 0) h2
  simp [rowX] at this
theorem OB.setBox {w : World} {B g : Nat} {t : TypeId} {v u v0 : Value} {l : List UInt8} (h : OB w B v l) (hb : Boxed w g t v0) (ht : t ≠ 5 := by decide) : OB (w.setCell ⟨g, 0, none⟩ u) B v l :=
  ownsRow_keepOn (n₀ := 0) (D := fun b => b ≠ g) h (KeepOn.setCell w g u (Nat.zero_le _) (fun h => h rfl)) (fun r hr h' => (hb.not_row ht h) (by rw [← h']; exact hr.symm))
def loF (k : Nat) : Nat := [220, 250, 250, 250, 354, 250].getD k 0
def hiF (k : Nat) : Nat := [220, 250, 250, 251, 354, 250].getD k 0
theorem rowX_get (us : Nat → Value) (k : Nat) (hk : k < 6) : (rowX us)[3 * k]? = some (us k) ∧ (rowX us)[3 * k + 1]? = some (.int .i64 (loF k : Int)) ∧ (rowX us)[3 * k + 2]? = some (.int .i64 (hiF k : Int)) := by
  rcases (by omega : k = 0 ∨ k = 1 ∨ k = 2 ∨ k = 3 ∨ k = 4 ∨ k = 5) with rfl | rfl | rfl | rfl | rfl | rfl <;> exact ⟨rfl, rfl, rfl⟩
theorem size52 (w : World) : (sizeOf 50).run Try.prog w = .ok 3 w := by kernel_rfl
theorem elem52 : Try.prog.elem 52 = 50 := by kernel_rfl
/-- steps[1:] -/
theorem slice_steps (g o L : Nat) (hL : 1 ≤ L) (m : Nat) (hm : m = L - 1) (w : World) : (Instr.slice 52 (.slice (some ⟨g, o, none⟩) L L) (some (.int .i64 1)) none none).run Try.prog w = .ok (.slice (some ⟨g, (if L = 1 then o else o + 3), none⟩) m m) w := by
  subst hm
  have h := run_slice_l (P := Try.prog) w 52 (some ⟨g, o, none⟩) L L (by rw [elem52]; exact Try.underlying52) .i64 1 (by omega) (by omega)
  rw [h, elem52, size52]
  by_cases h1 : L = 1
  · subst h1; simp [Result.andThen, sliced]
  · rw [if_neg h1]; simp [Result.andThen, sliced, h1, Addr.add]
structure XI (n₀ n₁ n₅ B12 B13 g14 g2 : Nat) (us : Nat → Value) (EF : Nat → List UInt8) (w : World) (o L : Nat) (outL : List UInt8) (D : Nat → Prop) (W : World) (outv : Value) : Prop where
  b10 : Boxed W n₀ 22 (.slice none 0 0)
  b11 : Boxed W (n₀ + 1) 3 (.int .i64 0)
  b12 : Boxed W B12 22 outv
  b13 : Boxed W B13 48 FN
  b14 : Boxed W g14 52 (.slice (some ⟨g2, o, none⟩) L L)
  row : Row W g2 50 (rowX us)
  out : OB W (n₁ + 1) outv outL
  snd : ∀ j, j < 6 → OB W n₅ (us j) (EF j)
  sbk : ∀ j, j < 6 → ∀ r, (us j).ownBlock = some r → r < n₁
  lo : ∀ b, b < n₁ → D b
  ow : ∀ r, outv.ownBlock = some r → D r
  bel : Below n₀ w W
  sz : n₁ + 1 ≤ W.heap.size
  pl : n₀ + 2 ≤ B12 ∧ B12 < B13 ∧ B13 < n₅ ∧ n₅ ≤ g14 ∧ n₅ ≤ g2 ∧ g14 < n₁ ∧ g2 < n₁ ∧ g14 ≠ g2
theorem row_keepOn {n₀ : Nat} {D : Nat → Prop} {W W' : World} {b : Nat} {t : TypeId} {l : List Value} (h : Row W b t l) (hk : KeepOn n₀ D W W') (hd : D b) : Row W' b t l := (hk.block b h.lt (.inr hd)).trans h
section
variable {n₀ n₁ n₅ B12 B13 g14 g2 : Nat} {us : Nat → Value} {EF : Nat → List UInt8} {w : World} {o L : Nat} {outL : List UInt8} {D : Nat → Prop} {W W' : World} {outv : Value}
theorem XI.keep (h : XI n₀ n₁ n₅ B12 B13 g14 g2 us EF w o L outL D W outv) (hk : KeepOn n₀ D W W') : XI n₀ n₁ n₅ B12 B13 g14 g2 us EF w o L outL D W' outv := by
  obtain ⟨p1, p2, p3, p4, p5, p6, p7, p8⟩ := h.pl
  have hs := h.sz
  exact ⟨boxed_keepOn h.b10 hk (.inr (h.lo _ (by omega))), boxed_keepOn h.b11 hk (.inr (h.lo _ (by omega))), boxed_keepOn h.b12 hk (.inr (h.lo _ (by omega))), boxed_keepOn h.b13 hk (.inr (h.lo _ (by omega))), boxed_keepOn h.b14 hk (.inr (h.lo _ (by omega))),
    row_keepOn h.row hk (h.lo _ (by omega)), ownsRow_keepOn h.out hk h.ow, fun j hj => ownsRow_keepOn (h.snd j hj) hk (fun r hr => h.lo r (h.sbk j hj r hr)), h.sbk, h.lo, h.ow, h.bel.trans (hk.below (by omega)), Nat.le_trans hs hk.size, h.pl⟩
theorem XI.below (h : XI n₀ n₁ n₅ B12 B13 g14 g2 us EF w o L outL D W outv) (hb : Below W.heap.size W W') : XI n₀ n₁ n₅ B12 B13 g14 g2 us EF w o L outL D W' outv := h.keep (KeepOn.of_below hb)
/-- what is kept behind an append onto out: all but out -/
theorem XI.grown {W1 : World} {v5 : Value} {out5 : List UInt8} (h : XI n₀ n₁ n₅ B12 B13 g14 g2 us EF w o L outL D W outv) (hDb : ∀ b, D b → b < W.heap.size) (ho : OB W1 (n₁ + 1) v5 out5) (hg : W.grownBy W1 outv.ownBlock) (hn : ∀ r, v5.ownBlock = some r → outv.ownBlock = some r ∨ r = W.heap.size) :
    Boxed W1 n₀ 22 (.slice none 0 0) ∧ Boxed W1 (n₀ + 1) 3 (.int .i64 0) ∧ Boxed W1 B12 22 outv ∧ Boxed W1 B13 48 FN ∧ Boxed W1 g14 52 (.slice (some ⟨g2, o, none⟩) L L) ∧ Row W1 g2 50 (rowX us) ∧ (∀ j, j < 6 → OB W1 n₅ (us j) (EF j)) ∧ Below n₀ w W1 ∧ n₁ + 1 ≤ W1.heap.size := by
  obtain ⟨p1, p2, p3, p4, p5, p6, p7, p8⟩ := h.pl
  have hs := h.sz
  have hr : ∀ r, outv.ownBlock = some r → n₁ + 1 ≤ r := fun r hr => (World.ownsRow.lt h.out r hr).1
  have hk : KeepOn n₀ (fun b => b < n₁) W W1 := KeepOn.of_grown hg (fun r e => by have := hr r e; exact ⟨by omega, by omega⟩)
  exact ⟨boxed_keepOn h.b10 hk (.inr (by omega)), boxed_keepOn h.b11 hk (.inr (by omega)), boxed_keepOn h.b12 hk (.inr (by omega)), boxed_keepOn h.b13 hk (.inr (by omega)), boxed_keepOn h.b14 hk (.inr (by omega)), row_keepOn h.row hk (by omega), fun j hj => ownsRow_keepOn (h.snd j hj) hk (fun r hr => h.sbk j hj r hr), h.bel.trans (hk.below (by omega)), Nat.le_trans hs hk.size⟩
/-- out has grown, the steps are one less -/
theorem XI.step {W1 : World} {M : Nat → Prop} {v5 : Value} {out5 : List UInt8} {o' L' : Nat} (h : XI n₀ n₁ n₅ B12 B13 g14 g2 us EF w o L outL D W outv) (hDb : ∀ b, D b → b < W.heap.size) (hMD : ∀ b, M b → b < W.heap.size ∧ ¬ D b) (ho : OB W1 (n₁ + 1) v5 out5) (hg : W.grownBy W1 outv.ownBlock) (hn : ∀ r, v5.ownBlock = some r → outv.ownBlock = some r ∨ r = W.heap.size) :
    ∃ D', (∀ b, D' b → b < ((W1.setCell ⟨B12, 0, none⟩ v5).setCell ⟨g14, 0, none⟩ (.slice (some ⟨g2, o', none⟩) L' L')).heap.size ∧ ¬ M b) ∧ KeepOn n₀ M W ((W1.setCell ⟨B12, 0, none⟩ v5).setCell ⟨g14, 0, none⟩ (.slice (some ⟨g2, o', none⟩) L' L')) ∧
      XI n₀ n₁ n₅ B12 B13 g14 g2 us EF w o' L' out5 D' ((W1.setCell ⟨B12, 0, none⟩ v5).setCell ⟨g14, 0, none⟩ (.slice (some ⟨g2, o', none⟩) L' L')) v5 := by
  obtain ⟨p1, p2, p3, p4, p5, p6, p7, p8⟩ := h.pl
  have hs := h.sz
  obtain ⟨k1, k2, k3, k4, k5, k6, k7, k8, k9⟩ := h.grown hDb ho hg hn
  have hM12 : ¬ M B12 := fun hm => (hMD _ hm).2 (h.lo _ (by omega))
  have hM14 : ¬ M g14 := fun hm => (hMD _ hm).2 (h.lo _ (by omega))
  have q1 : KeepOn n₀ M W W1 := KeepOn.of_grown hg (fun r e => by have := (World.ownsRow.lt h.out r e).1; exact ⟨by omega, fun hm => (hMD r hm).2 (h.ow r e)⟩)
  have q2 := (q1.trans (KeepOn.setCell W1 B12 v5 (by omega) hM12)).trans (KeepOn.setCell (W1.setCell ⟨B12, 0, none⟩ v5) g14 (.slice (some ⟨g2, o', none⟩) L' L') (by omega) hM14)
  have hz : ((W1.setCell ⟨B12, 0, none⟩ v5).setCell ⟨g14, 0, none⟩ (.slice (some ⟨g2, o', none⟩) L' L')).heap.size = W1.heap.size := by simp [World.setCell]
  have hb14 := boxed_set_other (u := v5) k5 (show g14 ≠ B12 by omega)
  have o5 : OB ((W1.setCell ⟨B12, 0, none⟩ v5).setCell ⟨g14, 0, none⟩ (.slice (some ⟨g2, o', none⟩) L' L')) (n₁ + 1) v5 out5 := OB.setBox (OB.setBox ho k3) hb14
  refine ⟨fun b => D b ∨ v5.ownBlock = some b, fun b hb => ?_, q2, ⟨boxed_set_other (boxed_set_other k1 (by omega)) (by omega), boxed_set_other (boxed_set_other k2 (by omega)) (by omega), boxed_set_other (k3.set v5) (by omega), boxed_set_other (boxed_set_other k4 (by omega)) (by omega), hb14.set _,
    (k6.other _ _ (show g2 ≠ B12 by omega)).other _ _ (show g2 ≠ g14 by omega), o5, fun j hj => OB.setBox (OB.setBox (k7 j hj) k3) hb14, h.sbk, fun b hb => .inl (h.lo b hb), fun r hr => .inr hr, h.bel.trans (q2.below (by omega)), by rw [hz]; exact k9, h.pl⟩⟩
  rw [hz]
  rcases hb with hb | hb
  · exact ⟨Nat.lt_of_lt_of_le (hDb b hb) hg.size, fun hm => (hMD b hm).2 hb⟩
  · refine ⟨(World.ownsRow.lt ho b hb).2, fun hm => ?_⟩
    rcases hn b hb with e | e
    · exact (hMD b hm).2 (h.ow b e)
    · have := (hMD b hm).1; omega
end
/-- the results lie in their variables -/
structure YI (n₀ n₁ : Nat) (w : World) (RL : List UInt8) (RN : Nat) (D : Nat → Prop) (W : World) : Prop where
  ex : ∃ A n c, Boxed W n₀ 22 (.slice A n c) ∧ OB W (n₁ + 1) (.slice A n c) RL ∧ ∀ r, (Value.slice A n c).ownBlock = some r → D r
  b11 : Boxed W (n₀ + 1) 3 (.int .i64 (RN : Int))
  d0 : D n₀
  d1 : D (n₀ + 1)
  bel : Below n₀ w W
  sz : n₁ + 1 ≤ W.heap.size
  pl : n₀ + 2 ≤ n₁
theorem YI.keep {n₀ n₁ : Nat} {w : World} {RL : List UInt8} {RN : Nat} {D : Nat → Prop} {W W' : World} (h : YI n₀ n₁ w RL RN D W) (hk : KeepOn n₀ D W W') : YI n₀ n₁ w RL RN D W' := by
  obtain ⟨A, n, c, h1, h2, h3⟩ := h.ex
  have := h.sz
  have := h.pl
  exact ⟨⟨A, n, c, boxed_keepOn h1 hk (.inr h.d0), ownsRow_keepOn h2 hk h3, h3⟩, boxed_keepOn h.b11 hk (.inr h.d1), h.d0, h.d1, h.bel.trans (hk.below (by omega)), Nat.le_trans h.sz hk.size, h.pl⟩
end Go.Proofs.Ytlgodokgebjjaaa

/- Scan. -/
import Derived.RangeFuncNested
import Derived.RangeFuncBound
import Derived.RangeFuncCalls
import Derived.RangeFuncLeaves
import Derived.Shelf.Abstract
import Derived.Shelf.RegionOpen
import Derived.WalkKit
import Derived.OwnWalkIn
import Derived.TacticsInMore
import Derived.LoopNIn
import Derived.LoopIn
import Derived.Outline
import Derived.Lib.Hide
import Derived.Lib.SliceRun
import Derived.IntWalk
import Derived.WalkLawsBesides
import Derived.WalkSpells
import Derived.Laws.BitsAllLaws
import Derived.Lib.ConvBytes
import Derived.Maps.AppendAt
import Derived.Lib.AppendStr
import Derived.Lib.SlBytesConst
import Derived.Laws.AppendOwnNone
import Derived.Laws.OwnMore
import Derived.Laws.BytesArg
import Derived.Deep.RegionHeld3
import Derived.BigQuiet
import Derived.Deep.RegionLaw
import Derived.Deep.QuietTactic
import Derived.Lib.OthersKept
import Derived.Test.YtlgodokgebjjaaaProg
import Derived.Deep.DeepFit
import Derived.Scope
import Derived.Test.YtlgodokgebjjaaaDoD
set_option linter.unusedVariables false
set_option linter.unusedSimpArgs false
namespace Go.Proofs.Ytlgodokgebjjaaa
open Go Go.RowKit Go.Shelf
attribute [local go_sem] Oper.semAt_some

theorem stepR_scope {P : Program} {b : Frame} {a : Act} {k : List Item} {cs : List Frame} {w : World} {c : Code} : step P (lone (b.atR a (.code (.scope c) :: k)) cs w) = .next (lone (b.atR a (.code c :: .inScope c :: k)) cs w) :=
  step_lone_go (by simp [stepG, stepG.exec, Frame.atR])
theorem stepR_inScope {P : Program} {b : Frame} {a : Act} {k : List Item} {cs : List Frame} {w : World} {c : Code} : step P (lone (b.atR a (.inScope c :: k)) cs w) = .next (lone (b.atR a k) cs w) :=
  step_lone_go (by simp [stepG, stepG.exec, Frame.atR])
/-- a body with labels that nobody jumps to, inside a fence -/
theorem wpIn_scope_none {F : Fence} {n : Nat} {P : Program} {Q : Exit → Act → World → Prop} {a : Act} {w : World} {c : Code} (hg : ∀ l a w, ¬ Q (.goto l) a w) (h : c.wpIn F n P Q a w) : (Code.scope c).wpIn F n P Q a w := by
  intro b k cs hro hb hr
  have h0 : (lone (b.atR a (.code (.scope c) :: k)) cs w).fenced P F := fenced_calm hb hr rfl
  obtain ⟨e, a₁, w₁, hq, harr⟩ := h b (.inScope c :: k) cs hro hb hr
  cases e with
  | normal => exact ⟨.normal, a₁, w₁, hq, .head h0 stepR_scope (StepsIn.trans harr (.one (fenced_calm hb hr rfl) stepR_inScope))⟩
  | exit id =>
    have hx : exitTo id (.inScope c :: k) = exitTo id k := by simp [exitTo]
    exact ⟨.exit id, a₁, w₁, hq, fun k' hk => .head h0 stepR_scope (harr.1 k' (by rw [hx]; exact hk)),
      fun hr' hk => let ⟨k₁, h1, h2⟩ := harr.2 hr' (by rw [hx]; exact hk); ⟨k₁, h1, .head h0 stepR_scope h2⟩⟩
  | goto l => exact absurd hq (hg l a₁ w₁)
  | ret => exact ⟨_, a₁, w₁, hq, .of_steps (.one h0 stepR_scope) harr⟩
  | panic ch => exact ⟨_, a₁, w₁, hq, .of_steps (.one h0 stepR_scope) harr⟩
  | outgrown => exact ⟨_, a₁, w₁, hq, .of_steps (.one h0 stepR_scope) harr⟩
def preU (ls : List (List UInt8)) (k : Nat) : List UInt8 := ((ls.take k).map unst).flatten
def useU (ls : List (List UInt8)) (k : Nat) : Nat := (ls.take k).flatten.length
theorem preU_snoc (ls : List (List UInt8)) (k : Nat) (x : List UInt8) (h : ls[k]? = some x) : preU ls (k + 1) = preU ls k ++ unst x ∧ useU ls (k + 1) = useU ls k + x.length := by
  have hk : k < ls.length := (List.getElem?_eq_some_iff.1 h).1
  rw [List.getElem?_eq_getElem hk] at h
  cases h
  unfold preU useU
  rw [List.take_succ_eq_append_getElem hk, List.map_append, List.flatten_append, List.flatten_append, List.length_append]
  simp only [List.map_cons, List.map_nil, List.flatten_cons, List.flatten_nil, List.append_nil]
  exact ⟨trivial, trivial⟩
theorem scanL_at : ∀ (ls : List (List UInt8)) (k : Nat), (∀ x ∈ ls.take k, x ≠ [46, 13, 10]) → ls[k]? = some [46, 13, 10] → scanL ls = some (preU ls k, useU ls k + 3)
  | [], k, _, h => by simp at h
  | x :: t, 0, _, h => by
    obtain rfl : x = [46, 13, 10] := by simpa using h
    rw [scanL, if_pos rfl]
    rfl
  | x :: t, k + 1, h1, h => by
    have hx : x ≠ [46, 13, 10] := h1 x (by simp)
    rw [scanL, if_neg hx, scanL_at t k (fun y hy => h1 y (by simp [hy])) (by simpa using h)]
    simp [preU, useU]
    omega
theorem scanL_le : ∀ (ls : List (List UInt8)) (o : List UInt8) (n : Nat), scanL ls = some (o, n) → n ≤ ls.flatten.length
  | [], _, _, h => by simp [scanL] at h
  | x :: t, o, n, h => by
    rw [scanL] at h
    by_cases hx : x = [46, 13, 10]
    · rw [if_pos hx] at h
      cases h
      rw [List.flatten_cons, List.length_append, hx]
      simp
    · rw [if_neg hx] at h
      obtain ⟨⟨o', n'⟩, h1, h2⟩ := Option.map_eq_some_iff.1 h
      cases h2
      have := scanL_le t o' n' h1
      rw [List.flatten_cons, List.length_append]
      omega
theorem cell_below {w w' : World} {p : Addr} {v : Value} (h : w.cell? p = some v) (hb : Below w.heap.size w w') : w'.cell? p = some v := (hb.cell (World.block_lt_of_cell? w _ h)).trans h
theorem unst_len (x : List UInt8) : (unst x).length ≤ x.length := by unfold unst; split <;> simp
theorem unflat_len : ∀ (ls : List (List UInt8)), (ls.map unst).flatten.length ≤ ls.flatten.length
  | [] => by simp
  | x :: t => by
    have := unflat_len t
    have := unst_len x
    simp only [List.map_cons, List.flatten_cons, List.length_append]
    omega
theorem preU_len (l : List UInt8) (k : Nat) : (preU (lns l) k).length ≤ l.length ∧ useU (lns l) k ≤ l.length := by
  have h1 := unflat_len ((lns l).take k)
  have h2 := take_flat_len (lns l) k
  have h3 := lns_len l.length l (Nat.le_refl _)
  unfold preU useU
  omega
theorem Grown.mono {n₀ B1 : Nat} {w W : World} {pre : List UInt8} {D D' : Nat → Prop} {v : Value} (h : Grown n₀ B1 w pre D W v) (hd : ∀ b, D b → D' b) : Grown n₀ B1 w pre D' W v :=
  ⟨h.1, h.2.1, hd _ h.2.2.1, fun r hr => hd _ (h.2.2.2.1 r hr), h.2.2.2.2⟩
theorem Grown.set {n₀ B1 : Nat} {w W : World} {pre : List UInt8} {D : Nat → Prop} {v : Value} (h : Grown n₀ B1 w pre D W v) (B : Nat) (u : Value) (hB : n₀ ≤ B) (h1 : B1 ≠ B) (h2 : some B ≠ v.ownBlock) : Grown n₀ B1 w pre D (W.setCell ⟨B, 0, none⟩ u) v := by
  have hg : Grown n₀ B1 w pre (fun b => D b ∧ b ≠ B) W v := ⟨h.1, h.2.1, ⟨h.2.2.1, h1⟩, fun r hr => ⟨h.2.2.2.1 r hr, fun e => h2 (by rw [← e]; exact hr.symm)⟩, h.2.2.2.2⟩
  exact (hg.keep (KeepOn.setCell W B u hB (fun h => h.2 rfl))).mono fun b hb => hb.1
theorem boxed_set_other {W : World} {B B' : Nat} {t : TypeId} {v u : Value} (h : Boxed W B t v) (hne : B ≠ B') : Boxed (W.setCell ⟨B', 0, none⟩ u) B t v :=
  (heap_setCell_other W ⟨B', 0, none⟩ B u hne).trans h
theorem size_set (W : World) (a : Addr) (u : Value) : (W.setCell a u).heap.size = W.heap.size := by simp [World.setCell]
theorem SB_put {W : World} {v : Value} {l : List UInt8} {dk : Nat} {o' : Obj} (h : SB W v l) (hk : W.heap[dk]? = some (.deferred (some []))) : SB (W.putObj dk o') v l := by
  by_cases h0 : 0 < l.length
  · obtain ⟨A, c, rfl, h1, h2, h3⟩ := h.form
    obtain ⟨g, o1, rfl, hc⟩ := h3 h0
    refine .inr ⟨_, c, rfl, h1, h2, fun _ => ⟨g, o1, rfl, fun i hi => ?_⟩⟩
    have hne : g ≠ dk := by
      rintro rfl
      have := hc 0 h0
      simp [World.cell?, hk] at this
    rw [← hc i hi]
    have he := World.putObj_heap_other (w := W) (o := o') hne
    simp [World.cell?, he]
  · exact h.empty (by omega) _
/-- between two rounds -/
def ScI (B1 : Nat) (w : World) (ls : List (List UInt8)) (k : Nat) (D : Nat → Prop) (W : World) : Prop :=
  ∃ v, Grown B1 B1 w (preU ls k) D W v ∧ Boxed W (B1 + 1) 3 (.int .i64 (useU ls k : Nat)) ∧ Boxed W (B1 + 1 + 1) 4 (.bool false) ∧ D (B1 + 1) ∧ D (B1 + 1 + 1) ∧ ∀ x ∈ ls.take k, x ≠ [46, 13, 10]
theorem ScI.stable (B1 : Nat) (w : World) (ls : List (List UInt8)) : StableD B1 (ScI B1 w ls) := by
  rintro k D W W' ⟨v, h1, h2, h3, h4, h5, h6⟩ hk
  exact ⟨v, h1.keep hk, boxed_keepOn h2 hk (.inr h4), boxed_keepOn h3 hk (.inr h5), h4, h5, h6⟩
/-- behind the last line -/
def ScX (B1 : Nat) (w : World) (ls : List (List UInt8)) (c : Code) (D : Nat → Prop) (W : World) : Prop :=
  c = .exit 0 ∧ ∃ v o n, Grown B1 B1 w o D W v ∧ Boxed W (B1 + 1) 3 (.int .i64 (n : Nat)) ∧ Boxed W (B1 + 1 + 1) 4 (.bool true) ∧ D (B1 + 1) ∧ D (B1 + 1 + 1) ∧ scanL ls = some (o, n)
theorem ScX.stable (B1 : Nat) (w : World) (ls : List (List UInt8)) (c : Code) : StableD B1 (fun _ D W => ScX B1 w ls c D W) := by
  rintro k D W W' ⟨hc, v, o, n, h1, h2, h3, h4, h5, h6⟩ hk
  exact ⟨hc, v, o, n, h1.keep hk, boxed_keepOn h2 hk (.inr h4), boxed_keepOn h3 hk (.inr h5), h4, h5, h6⟩

end Go.Proofs.Ytlgodokgebjjaaa

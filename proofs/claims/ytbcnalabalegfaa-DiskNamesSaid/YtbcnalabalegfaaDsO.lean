/- Start. -/
import Derived.RangeFuncNested
import Derived.RangeFuncBound
import Derived.RangeFuncCalls
import Derived.RangeFuncLeaves
import Derived.Shelf.Abstract
import Derived.Shelf.RegionOpen
import Derived.WalkKit
import Derived.OwnWalkIn
import Derived.TacticsInMore
import Derived.LoopNIn
import Derived.LoopIn
import Derived.Outline
import Derived.Lib.Hide
import Derived.Lib.SliceRun
import Derived.IntWalk
import Derived.WalkLawsBesides
import Derived.WalkSpells
import Derived.Laws.BitsAllLaws
import Derived.Lib.ConvBytes
import Derived.Maps.AppendAt
import Derived.Lib.AppendStr
import Derived.Lib.SlBytesConst
import Derived.Laws.AppendOwnNone
import Derived.Laws.OwnMore
import Derived.Laws.BytesArg
import Derived.Deep.RegionHeld3
import Derived.BigQuiet
import Derived.Deep.RegionLaw
import Derived.Deep.QuietTactic
import Derived.Lib.OthersKept
import Derived.Test.YtbcnalabalegfaaProg
import Derived.Deep.DeepFit
import Derived.BigRegionIn
import Derived.Test.YtbcnalabalegfaaDsN
set_option linter.unusedVariables false
set_option linter.unusedSimpArgs false
namespace Go.Proofs.Ytbcnalabalegfaa
open Go Go.RowKit Go.Shelf
open Go.Proofs (encStr)
attribute [local go_sem] Oper.semAt_some
variable {W W' : World} {B m n : Nat} {g : List UInt8 → Option Nat} {sl : List UInt8 → Value} {d : Dsk} {S : Nat → Prop}

/-- a slice of ints -/
def KI (W : World) (v : Value) (l : List Int) : Prop := ∃ A c, v = .slice A l.length c ∧ (l.length ≤ c ∧ c ≤ 9223372036854775807) ∧ ∀ i (h : i < l.length), ∃ g o, A = some ⟨g, o, none⟩ ∧ W.cell? ⟨g, o + i, none⟩ = some (.int .i64 l[i])
/-- in no block of S -/
def KIn (W : World) (v : Value) (l : List Int) (S : Nat → Prop) : Prop := KI W v l ∧ (0 < l.length → ∃ b, blockOf v = some b ∧ ¬ S b)
/-- how many bytes of the rest are kept -/
def cutK (keep : List Int) (kk tail : Nat) : Nat := if h : kk < keep.length then min (max keep[kk] 0).toNat tail else 0
theorem cutK_le (keep : List Int) (kk tail : Nat) : cutK keep kk tail ≤ tail := by
  unfold cutK; split
  · exact Nat.min_le_right _ _
  · exact Nat.zero_le _
/-- one file more, when the power is on again -/
def stS (keep : List Int) (p : Dsk × Nat) (x : List UInt8) : Dsk × Nat :=
  match p.1.f x with
  | none => p
  | some (b, s) => if s < b.length then ({ p.1 with f := updF p.1.f x (some (b.take (s + cutK keep p.2 (b.length - s)), s + cutK keep p.2 (b.length - s))), used := p.1.used - ((b.length : Int) - (s : Int) - (cutK keep p.2 (b.length - s) : Int)) }, p.2 + 1)
    else ({ p.1 with f := updF p.1.f x (some (b, b.length)) }, p.2)
def startD (d : Dsk) (keep : List Int) (ns : List (List UInt8)) : Dsk := { (ns.foldl (stS keep) (d, 0)).1 with down := false, fuse := 0 }
theorem stS_tail {keep : List Int} {p : Dsk × Nat} {x b : List UInt8} {s : Nat} (h : p.1.f x = some (b, s)) (hs : s < b.length) (q : Nat) (hq : cutK keep p.2 (b.length - s) = q) :
    stS keep p x = ({ p.1 with f := updF p.1.f x (some (b.take (s + q), s + q)), used := p.1.used - ((b.length : Int) - (s : Int) - (q : Int)) }, p.2 + 1) := by
  unfold stS; rw [h]; simp only []; rw [if_pos hs, hq]
theorem stS_whole {keep : List Int} {p : Dsk × Nat} {x b : List UInt8} {s : Nat} (h : p.1.f x = some (b, s)) (hs : ¬ s < b.length) : stS keep p x = ({ p.1 with f := updF p.1.f x (some (b, b.length)) }, p.2) := by
  unfold stS; rw [h]; simp only []; rw [if_neg hs]
theorem DKat.heap (h : DKat W B m n g sl d S) (he : W'.heap = W.heap) : DKat W' B m n g sl d S := h.keep (fun b _ => by rw [he]) (by rw [he]; exact Nat.le_refl _)
theorem OB_take {base : Nat} {A : Option Addr} {L c : Nat} {l : List UInt8} (h : OB W base (.slice A L c) l) (q : Nat) (hq : q ≤ l.length) : OB W base (.slice A q c) (l.take q) := by
  obtain ⟨hl, h2⟩ := h
  unfold OB
  have e1 : (l.take q).length = q := by rw [List.length_take]; omega
  rw [e1]
  refine ⟨by unfold enc8; simp; omega, ?_⟩
  rcases h2 with ⟨e, h0⟩ | ⟨gr, cap, cur, e, hb, hg, hc, hm, hs, ht⟩
  · injection e with ea el ec
    have : q = 0 := by omega
    subst this
    exact .inl ⟨by rw [ea, ec], rfl⟩
  · injection e with ea el ec
    subst ec
    refine .inr ⟨gr, c, cur, by rw [ea], hb, hg, by omega, hm, hs, ?_⟩
    have : enc8 (l.take q) = (enc8 l).take q := by unfold enc8; rw [List.map_take]
    rw [this, ← ht, Nat.mul_one, Nat.mul_one, List.take_take, Nat.min_eq_left (by omega)]
/-- a file cut, all of it safe: memory -/
theorem DKat.cutF (h : DKat W B m n g sl d S) {x : List UInt8} {F : Nat} {b : List UInt8} {s : Nat} (hg : g x = some F) (hf : d.f x = some (b, s)) {A : Option Addr} {L c : Nat} (hsl : sl x = .slice A L c) (q : Nat) (hq : q ≤ b.length) :
    DKat ((W.setCell ⟨F, 0, none⟩ (.slice A q c)).setCell ⟨F, 1, none⟩ (.int .i64 (q : Int))) B m n g (fun y => if y = x then .slice A q c else sl y) { d with f := updF d.f x (some (b.take q, q)) } S := by
  obtain ⟨b0, s0, h1, h2, h2', h3, h4, h5, h6⟩ := h.file x F hg
  rw [hf] at h1; cases h1
  have hgx : (g x).isSome = true := by rw [hg]; rfl
  rw [hsl] at h3 h4 h6
  have hr : ∀ r, (Value.slice A q c).ownBlock = some r → (Value.slice A L c).ownBlock = some r := fun r hr => by
    cases A with
    | none => simp [Value.ownBlock] at hr
    | some a => simpa [Value.ownBlock] using hr
  have hrF : ∀ r, (Value.slice A L c).ownBlock = some r → r ≠ F := fun r hr => ((h.neB hg).2.2 x r hgx (by rw [hsl]; exact hr)).2.2
  refine h.setF hg (S' := S) (fun b hb => hb) (fun r hr => ?_) (fun r hr hne hne' => ?_) (.slice A q c) (b.take q) q (by rw [List.length_take]; omega) (by rw [List.length_take]; omega) ((h3.set0 _).set1 _) ?_ (fun r hr' => ⟨h6 r (hr r hr'), fun _ => by rw [hsl]; exact hr r hr'⟩)
  · have := h.lt r hr
    simp [World.setCell]; omega
  · rw [heap_setCell_other _ ⟨F, 1, none⟩ r _ hne, heap_setCell_other W ⟨F, 0, none⟩ r _ hne]
  · exact ownsRow_blk (OB_take h4 q hq) fun r hr' => by rw [heap_setCell_other _ ⟨F, 1, none⟩ r _ (hrF r (hr r hr')), heap_setCell_other W ⟨F, 0, none⟩ r _ (hrF r (hr r hr'))]
end Go.Proofs.Ytbcnalabalegfaa

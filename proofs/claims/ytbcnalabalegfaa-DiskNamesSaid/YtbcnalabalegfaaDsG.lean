/- Append whichever; lose, Create. -/
import Derived.RangeFuncNested
import Derived.RangeFuncBound
import Derived.RangeFuncCalls
import Derived.RangeFuncLeaves
import Derived.Shelf.Abstract
import Derived.Shelf.RegionOpen
import Derived.WalkKit
import Derived.OwnWalkIn
import Derived.TacticsInMore
import Derived.LoopNIn
import Derived.LoopIn
import Derived.Outline
import Derived.Lib.Hide
import Derived.Lib.SliceRun
import Derived.IntWalk
import Derived.WalkLawsBesides
import Derived.WalkSpells
import Derived.Laws.BitsAllLaws
import Derived.Lib.ConvBytes
import Derived.Maps.AppendAt
import Derived.Lib.AppendStr
import Derived.Lib.SlBytesConst
import Derived.Laws.AppendOwnNone
import Derived.Laws.OwnMore
import Derived.Laws.BytesArg
import Derived.Deep.RegionHeld3
import Derived.BigQuiet
import Derived.Deep.RegionLaw
import Derived.Deep.QuietTactic
import Derived.Lib.OthersKept
import Derived.Test.YtbcnalabalegfaaProg
import Derived.Deep.DeepFit
import Derived.StillTailTactics
import Derived.RegionTactic
import Derived.BigRegion
import Derived.Test.YtbcnalabalegfaaDsF
set_option linter.unusedVariables false
set_option linter.unusedSimpArgs false
namespace Go.Proofs.Ytbcnalabalegfaa
open Go Go.RowKit Go.Shelf
open Go.Proofs (encStr)
variable {W W' : World} {B m n : Nat} {g : List UInt8 → Option Nat} {sl : List UInt8 → Value} {d : Dsk} {S : Nat → Prop}

theorem DK.mono {n' : Nat} (h : DK W B n d S) (hn : n ≤ n') : DK W B n' d S := by obtain ⟨m, g, sl, h⟩ := h; exact ⟨m, g, sl, h.mono hn⟩
theorem DPost.mono {n' : Nat} (h : DPost W B n d S W') (hn : n ≤ n') : DPost W B n' d S W' := by obtain ⟨S', h1, h2, h3⟩ := h; exact ⟨S', h1.mono hn, h2, h3⟩
/-- **Append** -/
theorem dappend_any (w : World) (h : DK w B n d S) (hdn : d.down = false) (hsm : d.small) (x : List UInt8) (hok : okNm x) (v : Value) (c : List UInt8) (hv : SB w v c) (hcl : c.length ≤ 1000000) (hroom : (c.length : Int) ≤ d.room - d.used) (hfl : flen (d.f x) ≤ 100000000) (hn : n ≤ 1000000) :
    Calls Try.prog 8 #[.pointer (some ⟨B, 0, none⟩), encStr x, v] w fun e w' => e = .returned (.int .i64 (if (d.app x c).chg.down then 10 else 0)) ∧ DPost w B (n + 1) (d.app x c).chg S w' := by
  obtain ⟨m, g, sl, h⟩ := h
  rcases h.at_ x with ⟨h1, h2⟩ | ⟨F, b, s, h1, h2, -⟩
  · exact dappend_none w h hdn hsm x hok v c hv hcl hroom h1 hn
  · refine (dappend_some w h hdn hsm x hok v c hv hcl hroom F b s h1 h2 (by rw [h2] at hfl; exact hfl)).mono ?_
    rintro e w' ⟨e1, e2⟩
    exact ⟨e1, e2.mono (Nat.le_succ n)⟩
theorem lose_none {d : Dsk} {x : List UInt8} (h : d.f x = none) : d.lose x = d := by
  unfold Dsk.lose
  rw [h]
  have : updF d.f x none = d.f := by rw [← h]; exact updF_self d.f x
  rw [this]
  cases d
  simp [flen]
/-- delete, at the operation -/
theorem wpList_del {P : Program} {w : World} {ops : Array Oper} {rest : List Oper} {o : Oper} {a : Act} {Q : Exit → Act → World → Prop} (hgd : o.guard = none) (s x : Operand) (t k : TypeId)
    (ho : o.op = .call { callee := .builtin .delete, args := #[s, x], argTypes := #[t, k] }) (sv xv : Value) (hs : a.eval s = sv) (hx : a.eval x = xv)
    (h : ∃ w', (Builtin.delete_ #[t, k] o.type #[sv, xv]).run P w = .ok (.tuple #[]) w' ∧ wpList P ops Q rest (a.put o.dst (.tuple #[])) w') : wpList P ops Q (o :: rest) a w := by
  refine wpList_plain hgd fun K hK => ?_
  obtain ⟨w', hrun, h1⟩ := h
  unfold Oper.wp
  simp [execOp, ho, resolve, invoke, builtin, hs, hx, hrun, Result.andThen]
  exact hK _ _ h1
theorem boxed_of {W : World} {P : Nat} {t : TypeId} {v : Value} (h : Boxed W P t v) {W' : World} (hb : W'.heap[P]? = W.heap[P]?) : Boxed W' P t v := hb.trans h
theorem mk0_eq (d : Dsk) (x : List UInt8) : ({ d.lose x with f := updF (d.lose x).f x (some ([], 0)) } : Dsk) = d.mk0 x := by
  unfold Dsk.mk0 Dsk.lose
  simp only [updF_idem]
end Go.Proofs.Ytbcnalabalegfaa

/- DigestTexts and DigestBack. -/
import Derived.RangeFuncNested
import Derived.RangeFuncBound
import Derived.RangeFuncCalls
import Derived.RangeFuncLeaves
import Derived.Shelf.Abstract
import Derived.Shelf.RegionOpen
import Derived.WalkKit
import Derived.OwnWalkIn
import Derived.TacticsInMore
import Derived.LoopNIn
import Derived.LoopIn
import Derived.Outline
import Derived.Lib.Hide
import Derived.Lib.SliceRun
import Derived.IntWalk
import Derived.WalkLawsBesides
import Derived.WalkSpells
import Derived.Laws.BitsAllLaws
import Derived.Lib.ConvBytes
import Derived.Maps.AppendAt
import Derived.Lib.AppendStr
import Derived.Lib.SlBytesConst
import Derived.Laws.AppendOwnNone
import Derived.Laws.OwnMore
import Derived.Laws.BytesArg
import Derived.Deep.RegionHeld3
import Derived.BigQuiet
import Derived.Deep.RegionLaw
import Derived.Deep.QuietTactic
import Derived.Lib.OthersKept
import Derived.Test.YtnepmhdnkcnnmaaProg
import Derived.Deep.DeepFit
import Derived.Test.YtnepmhdnkcnnmaaDgO
import Derived.Test.YtnepmhdnkcnnmaaDgK
set_option linter.unusedVariables false
set_option linter.unusedSimpArgs false
namespace Go.Proofs.Ytnepmhdnkcnnmaa
open Go Go.RowKit Go.Shelf

/-- a whole array, as the walk meets its load -/
theorem Row.ld {w : World} {g : Nat} {t : TypeId} {l : List Value} (hr : Row w g t l) (ty : TypeId) (n : Nat) (e : TypeId) (hu : Try.prog.underlying ty = some (.array n e)) (hi : (Try.prog.info? ty).map (·.size) = some l.length) :
    (Instr.loadAt ty (.pointer (some ⟨g, 0, none⟩))).run Try.prog w = .ok (.agg l.toArray) w := by
  refine run_loadAt_mid w g 0 ty l _ (fun j v hj => ?_) hu rfl hi
  rw [Nat.zero_add, hr.cell j]; exact hj
/-- .. and where an operation stands under a guard -/
theorem wpList_wanted {w : World} {ops : Array Oper} {rest : List Oper} {o : Oper} {a : Act} {Q : Exit → Act → World → Prop} (hw : Region.wanted o (yielded ops a.tmps) = true)
    (h : ∀ K : Act → World → Prop, (∀ a w, wpList Try.prog ops Q rest a w → K a w) → o.wp Try.prog a w K Q) : wpList Try.prog ops Q (o :: rest) a w :=
  wpList_step fun K hK => by rw [hw, if_pos rfl]; exact h K hK
theorem Row.loadg {w : World} {ops : Array Oper} {rest : List Oper} {o : Oper} {a : Act} {Q : Exit → Act → World → Prop} {g : Nat} {t : TypeId} {l : List Value} (hr : Row w g t l) (hw : Region.wanted o (yielded ops a.tmps) = true) (ty : TypeId) (x : Operand) (ho : o.op = .load ty x)
    (hx : a.eval x = .pointer (some ⟨g, 0, none⟩)) (n : Nat) (e : TypeId) (hu : Try.prog.underlying ty = some (.array n e)) (hi : (Try.prog.info? ty).map (·.size) = some l.length)
    (h : wpList Try.prog ops Q rest (a.put o.dst (.agg l.toArray)) w) : wpList Try.prog ops Q (o :: rest) a w :=
  wpList_wanted hw fun K hK => wp_load_mid ty x ho g 0 hx l _ (fun j v hj => by rw [Nat.zero_add, hr.cell j]; exact hj) hu rfl hi (hK _ _ h)
theorem Row.new_set (w : World) (l : List Value) (t : TypeId) (m : List Value) : Row ((w.alloc (.cells l.toArray t)).setRow w.heap.size m.toArray) w.heap.size t m := (Row.new w l.toArray t).setRow m

/-- an array's variable, filled -/
theorem filled (w : World) (m : List Value) : ∃ W, (w.alloc (.cells #[.int .u8 0, .int .u8 0, .int .u8 0, .int .u8 0, .int .u8 0, .int .u8 0, .int .u8 0, .int .u8 0, .int .u8 0, .int .u8 0, .int .u8 0, .int .u8 0, .int .u8 0, .int .u8 0, .int .u8 0, .int .u8 0, .int .u8 0, .int .u8 0, .int .u8 0, .int .u8 0, .int .u8 0, .int .u8 0, .int .u8 0, .int .u8 0, .int .u8 0, .int .u8 0, .int .u8 0, .int .u8 0, .int .u8 0, .int .u8 0, .int .u8 0, .int .u8 0] 23)).setRow w.heap.size m.toArray = W ∧ Row W w.heap.size 23 m ∧ (∀ b t l, Row w b t l → Row W b t l) ∧ Below w.heap.size w W := by
  refine ⟨_, rfl, (Row.new w #[.int .u8 0, .int .u8 0, .int .u8 0, .int .u8 0, .int .u8 0, .int .u8 0, .int .u8 0, .int .u8 0, .int .u8 0, .int .u8 0, .int .u8 0, .int .u8 0, .int .u8 0, .int .u8 0, .int .u8 0, .int .u8 0, .int .u8 0, .int .u8 0, .int .u8 0, .int .u8 0, .int .u8 0, .int .u8 0, .int .u8 0, .int .u8 0, .int .u8 0, .int .u8 0, .int .u8 0, .int .u8 0, .int .u8 0, .int .u8 0, .int .u8 0, .int .u8 0] 23).setRow m, fun b t l h => ?_, below_setRow ((Below.refl _ w).alloc (Nat.le_refl _) _) (Nat.le_refl _) _⟩
  exact (h.alloc (.cells #[.int .u8 0, .int .u8 0, .int .u8 0, .int .u8 0, .int .u8 0, .int .u8 0, .int .u8 0, .int .u8 0, .int .u8 0, .int .u8 0, .int .u8 0, .int .u8 0, .int .u8 0, .int .u8 0, .int .u8 0, .int .u8 0, .int .u8 0, .int .u8 0, .int .u8 0, .int .u8 0, .int .u8 0, .int .u8 0, .int .u8 0, .int .u8 0, .int .u8 0, .int .u8 0, .int .u8 0, .int .u8 0, .int .u8 0, .int .u8 0, .int .u8 0, .int .u8 0] 23)).setRow_ne m.toArray (g := w.heap.size) (by have := h.lt; omega)
theorem Row.range {w : World} {b : Nat} {t : TypeId} {l : List Value} (h : Row w b t l) : w.rangeAt b 0 l := fun j v hj => by rw [Nat.zero_add, h.cell j]; exact hj
theorem rangeAt_below {w w' : World} {b o : Nat} {cs : List Value} (h : w.rangeAt b o cs) (hb : Below w.heap.size w w') : w'.rangeAt b o cs := fun j v hj =>
  (hb.cell (World.block_lt_of_cell? w _ (h j v hj))).trans (h j v hj)
theorem below_step {n : Nat} {a w w' : World} (h : Below n a w) (hn : n ≤ w.heap.size) (hb : Below w.heap.size w w') : Below n a w' := h.trans (hb.mono hn)
theorem below_on {a w w' : World} (hb : Below w.heap.size w w') (h : Below a.heap.size a w) : Below a.heap.size a w' := h.trans (hb.mono h.size)

/-! ## How an array of 32 bytes reads -/
theorem mapM_some {α β : Type} {f : α → Option β} : ∀ (L : List α) (xs : List β), L.mapM f = some xs → ∀ i, i ∈ L → ∃ y, f i = some y
  | [], _, _, i, hi => by cases hi
  | a :: L, xs, h, i, hi => by
    rw [List.mapM_cons] at h
    simp only [bind, Option.bind_eq_some_iff, pure, Option.some.injEq] at h
    obtain ⟨y, hy, ys, hys, rfl⟩ := h
    rcases List.mem_cons.1 hi with rfl | hi
    · exact ⟨y, hy⟩
    · exact mapM_some L ys hys i hi
def byteOf : Value → UInt8
  | .int _ n => UInt8.ofNat n.toNat
  | _ => 0
open Go.ChangeShapes Go.WideShapes Go.ChangeAt in
set_option maxRecDepth 100000 in
theorem Open.cells_sum {H : Type} {enc : TypeId × Value → H} {W : World} {fuel : Nat} {cs : List Value} {x : DataW H × List MemPlace}
    (h : DataW.trod enc Try.prog W 0 (fun _ => true) true fuel 23 cs = some x) : ∃ l : List UInt8, cs = enc8 l ∧ l.length = 32 := by
  have hcell : Try.prog.cellsOf 23 = 32 := by kernel_rfl
  have hcell1 : Try.prog.cellsOf 5 = 1 := by kernel_rfl
  cases fuel with
  | zero => simp [DataW.trod] at h
  | succ m =>
    rw [DataW.trod_step] at h
    unfold DataW.trodStep at h
    simp only [Try.underlying23] at h
    by_cases hc : cs.length = Try.prog.cellsOf 23
    · rw [if_pos hc] at h
      rw [hcell] at hc
      simp only [Option.map_eq_some_iff] at h
      obtain ⟨ys, hy, _⟩ := h
      have hall := mapM_some _ _ hy
      have hone : ∀ i (hi : i < 32), ∃ b : UInt8, cs[i]? = some (.int .u8 (b.toNat : Int)) := by
        intro i hi
        obtain ⟨y, hy⟩ := hall i (List.mem_range.2 hi)
        obtain ⟨a, ea, _, wa⟩ := DataW.trod_int Try.underlying5 hy
        rw [hcell1, Nat.mul_one] at ea
        have e0 : cs[i]? = some (.int .u8 a) := by
          have := congrArg (fun l => l[0]?) ea
          simpa [List.getElem?_take_of_lt] using this
        have hb := bounds_u8 wa
        refine ⟨UInt8.ofNat a.toNat, ?_⟩
        rw [e0, UInt8.toNat_ofNat']
        congr 2
        omega
      refine ⟨cs.map byteOf, ?_, by simpa using hc⟩
      apply List.ext_getElem?
      intro i
      by_cases hi : i < 32
      · obtain ⟨b, hb⟩ := hone i hi
        unfold enc8
        rw [List.map_map, List.getElem?_map, hb]
        simp [byteOf]
      · rw [List.getElem?_eq_none (by omega), List.getElem?_eq_none (by rw [enc8_len]; simp; omega)]
    · rw [if_neg hc] at h
      cases h
open Go.ChangeShapes Go.WideShapes Go.ChangeAt in
theorem Open.sum {H : Type} {enc : TypeId × Value → H} {W : World} {b0 : Nat} {v : Value} {d : DataW H} {p : List MemPlace} (hv : Value.okWide Try.prog W .any b0 23 v)
    (h : DataW.Trod enc Try.prog W 0 (fun _ => true) true 23 v d p) : ∃ l : List UInt8, v = .agg (enc8 l).toArray ∧ l.length = 32 := by
  simp only [Value.okWide, Try.underlying23] at hv
  obtain ⟨cs, rfl, _⟩ := hv
  obtain ⟨fuel, hf⟩ := h
  obtain ⟨l, hl, h32⟩ := Open.cells_sum hf
  refine ⟨l, ?_, h32⟩
  congr 1
  rw [← hl]
  simp [Value.cells]
end Go.Proofs.Ytnepmhdnkcnnmaa

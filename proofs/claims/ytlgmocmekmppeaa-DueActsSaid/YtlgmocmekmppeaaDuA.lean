/- The heap of items: how it lies in memory; Less. -/
import Derived.RangeFuncNested
import Derived.RangeFuncBound
import Derived.RangeFuncCalls
import Derived.RangeFuncLeaves
import Derived.Shelf.Abstract
import Derived.Shelf.RegionOpen
import Derived.WalkKit
import Derived.OwnWalkIn
import Derived.TacticsInMore
import Derived.LoopNIn
import Derived.LoopIn
import Derived.Outline
import Derived.Lib.Hide
import Derived.Lib.SliceRun
import Derived.IntWalk
import Derived.WalkLawsBesides
import Derived.WalkSpells
import Derived.Laws.BitsAllLaws
import Derived.Lib.ConvBytes
import Derived.Maps.AppendAt
import Derived.Lib.AppendStr
import Derived.Lib.SlBytesConst
import Derived.Laws.AppendOwnNone
import Derived.Laws.OwnMore
import Derived.Laws.BytesArg
import Derived.Deep.RegionHeld3
import Derived.BigQuiet
import Derived.Deep.RegionLaw
import Derived.Deep.QuietTactic
import Derived.Test.YtlgmocmekmppeaaProg
import Derived.Deep.AppendLies
import Derived.Test.YtlgmocmekmppeaaRange
set_option linter.unusedVariables false
set_option linter.unusedSimpArgs false
namespace Go.Proofs.Ytlgmocmekmppeaa
open Go Go.RowKit Go.Shelf

abbrev Item := Int × Int
/-- items as cells -/
def itC : List Item → List Value
  | [] => []
  | x :: xs => .int .i64 x.1 :: .int .i64 x.2 :: itC xs
theorem itC_len (xs : List Item) : (itC xs).length = xs.length * 2 := by
  induction xs with
  | nil => rfl
  | cons x xs ih => simp [itC, ih]; omega
theorem itC_append (xs ys : List Item) : itC (xs ++ ys) = itC xs ++ itC ys := by
  induction xs with
  | nil => rfl
  | cons x xs ih => simp [itC, ih]
def itA (xs : List Item) (i : Nat) : Int := (xs[i]?.getD (0, 0)).1
def itB (xs : List Item) (i : Nat) : Int := (xs[i]?.getD (0, 0)).2
theorem itC_get (xs : List Item) (i : Nat) (h : i < xs.length) : (itC xs)[i * 2]? = some (.int .i64 (itA xs i)) ∧ (itC xs)[i * 2 + 1]? = some (.int .i64 (itB xs i)) := by
  induction xs generalizing i with
  | nil => simp at h
  | cons x xs ih =>
    cases i with
    | zero => exact ⟨rfl, rfl⟩
    | succ i =>
      have := ih i (by simpa using h)
      rw [show (i + 1) * 2 = i * 2 + 1 + 1 by omega]
      simp only [itC, List.getElem?_cons_succ, itA, itB]
      exact this

/-- a row of items of the call's own -/
def IR (W : World) (base : Nat) (v : Value) (xs : List Item) : Prop := W.ownsRow base 50 2 v xs.length (itC xs)
theorem IR.cells {W : World} {base g n c : Nat} {xs : List Item} (h : IR W base (.slice (some ⟨g, 0, none⟩) n c) xs) (i : Nat) (hi : i < xs.length) :
    W.cell? ⟨g, i * 2, none⟩ = some (.int .i64 (itA xs i)) ∧ W.cell? ⟨g, i * 2 + 1, none⟩ = some (.int .i64 (itB xs i)) ∧ n = xs.length := by
  obtain ⟨hl, h⟩ := h
  rcases h with ⟨e, h0⟩ | ⟨g', cap, cur, e, hb, hg, hc, hm, hs, ht⟩
  · omega
  · cases e
    obtain ⟨h1, h2⟩ := itC_get xs i hi
    rw [← ht, List.getElem?_take_of_lt (by omega)] at h1 h2
    refine ⟨?_, ?_, rfl⟩
    · simp only [World.cell?, hg]; simpa using h1
    · simp only [World.cell?, hg]; simpa using h2
def ltI (x y : Item) : Bool := if x.1 = y.1 then decide (x.2 < y.2) else decide (x.1 < y.1)
def it (xs : List Item) (i : Nat) : Item := xs[i]?.getD (0, 0)

set_option maxRecDepth 100000 in
set_option maxHeartbeats 1000000 in
/-- **Less** -/
theorem less_q (base g c i j : Nat) (xs : List Item) (w : World) (h : IR w base (.slice (some ⟨g, 0, none⟩) xs.length c) xs) (hi : i < xs.length) (hj : j < xs.length) (hmax : xs.length ≤ 1000000) :
    Calls Try.prog 91 #[.slice (some ⟨g, 0, none⟩) xs.length c, .int .i64 (i : Int), .int .i64 (j : Int)] w fun e w' => e = .returned (.bool (ltI (it xs i) (it xs j))) ∧ ∃ m, w' = w.drewN m := by
  obtain ⟨a1, a2, -⟩ := h.cells i hi
  obtain ⟨b1, b2, -⟩ := h.cells j hj
  clear h
  have i0 : (0 : Int) ≤ (i : Int) := by omega
  have i1 : (i : Int) < (xs.length : Int) := by omega
  have j0 : (0 : Int) ≤ (j : Int) := by omega
  have j1 : (j : Int) < (xs.length : Int) := by omega
  by_cases he : itA xs i = itA xs j
  · have hq : (itA xs i == itA xs j) = true := by simp [he]
    have Hl : Hid (ltI (it xs i) (it xs j) = decide (itB xs i < itB xs j)) := by
      show (if itA xs i = itA xs j then _ else _) = _
      rw [if_pos he]; rfl
    clear he
    go_enter Try.func91, Try.ntmps91
    go_wp2
    go_quiet (fail)
    go_wp2
    go_quiet (fail)
    go_wp2
    go_ret
    exact ⟨by rw [Hl.out]; rfl, _, World.drewN_drewN ..⟩
  · have hq : (itA xs i == itA xs j) = false := by simp [he]
    have Hl : Hid (ltI (it xs i) (it xs j) = decide (itA xs i < itA xs j)) := by
      show (if itA xs i = itA xs j then _ else _) = _
      rw [if_neg he]; rfl
    clear he
    go_enter Try.func91, Try.ntmps91
    go_wp2
    go_quiet (fail)
    go_wp2
    go_quiet (fail)
    go_wp2
    go_ret
    exact ⟨by rw [Hl.out]; rfl, _, World.drewN_drewN ..⟩

def swapL (xs : List Item) (i j : Nat) : List Item := (xs.set i (it xs j)).set j (it xs i)
theorem below_drewN {B : Nat} {w W : World} (h : Below B w W) (n : Nat) : Below B w (W.drewN n) := ⟨h.os, h.tape, h.output, h.size, h.block⟩
theorem grownBy_trans {a b c : World} {r : Option Nat} (h : a.grownBy b r) (k : b.grownBy c r) : a.grownBy c r :=
  ⟨k.os.trans h.os, k.tape.trans h.tape, k.output.trans h.output, Nat.le_trans h.size k.size, fun i hi hn => (k.block i (Nat.lt_of_lt_of_le hi h.size) hn).trans (h.block i hi hn)⟩
theorem itC_set (xs : List Item) (i : Nat) (x : Item) : ((itC xs).set (i * 2) (.int .i64 x.1)).set (i * 2 + 1) (.int .i64 x.2) = itC (xs.set i x) := by
  induction xs generalizing i with
  | nil => simp [itC]
  | cons y xs ih =>
    cases i with
    | zero => simp [itC]
    | succ i => rw [show (i + 1) * 2 = i * 2 + 1 + 1 by omega]; simp [itC, ih]
theorem IR.stored {W : World} {base g c : Nat} {xs : List Item} (h : IR W base (.slice (some ⟨g, 0, none⟩) xs.length c) xs) (i : Nat) (x : Item) :
    IR ((W.setCell ⟨g, i * 2, none⟩ (.int .i64 x.1)).setCell ⟨g, i * 2 + 1, none⟩ (.int .i64 x.2)) base (.slice (some ⟨g, 0, none⟩) xs.length c) (xs.set i x) ∧ W.grownBy ((W.setCell ⟨g, i * 2, none⟩ (.int .i64 x.1)).setCell ⟨g, i * 2 + 1, none⟩ (.int .i64 x.2)) (some g) := by
  obtain ⟨h1, g1⟩ := World.ownsRow.stored h (i * 2) (.int .i64 x.1)
  obtain ⟨h2, g2⟩ := World.ownsRow.stored h1 (i * 2 + 1) (.int .i64 x.2)
  refine ⟨?_, grownBy_trans g1 g2⟩
  unfold IR
  rw [← itC_set, List.length_set]
  exact h2
theorem swapL_len (xs : List Item) (i j : Nat) : (swapL xs i j).length = xs.length := by simp [swapL]

set_option maxRecDepth 100000 in
set_option maxHeartbeats 1000000 in
theorem swap_ne (base g c i j : Nat) (xs : List Item) (w : World) (h : IR w base (.slice (some ⟨g, 0, none⟩) xs.length c) xs) (hi : i < xs.length) (hj : j < xs.length) (hij : i ≠ j) (hmax : xs.length ≤ 1000000) :
    Calls Try.prog 92 #[.slice (some ⟨g, 0, none⟩) xs.length c, .int .i64 (i : Int), .int .i64 (j : Int)] w fun e w' => e = .returned (.tuple #[]) ∧ IR w' base (.slice (some ⟨g, 0, none⟩) xs.length c) (swapL xs i j) ∧ w.grownBy w' (some g) := by
  obtain ⟨a1, a2, -⟩ := h.cells i hi
  obtain ⟨b1, b2, -⟩ := h.cells j hj
  have i0 : (0 : Int) ≤ (i : Int) := by omega
  have i1 : (i : Int) < (xs.length : Int) := by omega
  have j0 : (0 : Int) ≤ (j : Int) := by omega
  have j1 : (j : Int) < (xs.length : Int) := by omega
  have f1 := World.ownsRow.frozenAt h (i * 2)
  have f2 := World.ownsRow.frozenAt h (i * 2 + 1)
  have f3 := World.ownsRow.frozenAt h (j * 2)
  have f4 := World.ownsRow.frozenAt h (j * 2 + 1)
  have H := Lib.hid h
  clear h
  go_enter Try.func92, Try.ntmps92
  go_wp2
  go_region
  go_end0
  obtain ⟨h1, g1⟩ := H.out.stored i (it xs j)
  obtain ⟨h2, g2⟩ := IR.stored (xs := xs.set i (it xs j)) (by rw [List.length_set]; exact h1) j (it xs i)
  rw [List.length_set] at h2
  exact ⟨rfl, h2, grownBy_trans (grownBy_trans g1 g2) ⟨rfl, rfl, rfl, Nat.le_refl _, fun _ _ _ => rfl⟩⟩

set_option maxRecDepth 100000 in
set_option maxHeartbeats 1000000 in
theorem swap_eq (base g c i : Nat) (xs : List Item) (w : World) (h : IR w base (.slice (some ⟨g, 0, none⟩) xs.length c) xs) (hi : i < xs.length) (hmax : xs.length ≤ 1000000) :
    Calls Try.prog 92 #[.slice (some ⟨g, 0, none⟩) xs.length c, .int .i64 (i : Int), .int .i64 (i : Int)] w fun e w' => e = .returned (.tuple #[]) ∧ IR w' base (.slice (some ⟨g, 0, none⟩) xs.length c) (swapL xs i i) ∧ w.grownBy w' (some g) := by
  obtain ⟨a1, a2, -⟩ := h.cells i hi
  have i0 : (0 : Int) ≤ (i : Int) := by omega
  have i1 : (i : Int) < (xs.length : Int) := by omega
  have f1 := World.ownsRow.frozenAt h (i * 2)
  have f2 := World.ownsRow.frozenAt h (i * 2 + 1)
  have H := Lib.hid h
  clear h
  go_enter Try.func92, Try.ntmps92
  go_wp2
  go_region
  go_end0
  obtain ⟨h1, g1⟩ := H.out.stored i (it xs i)
  obtain ⟨h2, g2⟩ := IR.stored (xs := xs.set i (it xs i)) (by rw [List.length_set]; exact h1) i (it xs i)
  rw [List.length_set] at h2
  exact ⟨rfl, h2, grownBy_trans (grownBy_trans g1 g2) ⟨rfl, rfl, rfl, Nat.le_refl _, fun _ _ _ => rfl⟩⟩
/-- **Swap** -/
theorem swap_any (base g c i j : Nat) (xs : List Item) (w : World) (h : IR w base (.slice (some ⟨g, 0, none⟩) xs.length c) xs) (hi : i < xs.length) (hj : j < xs.length) (hmax : xs.length ≤ 1000000) :
    Calls Try.prog 92 #[.slice (some ⟨g, 0, none⟩) xs.length c, .int .i64 (i : Int), .int .i64 (j : Int)] w fun e w' => e = .returned (.tuple #[]) ∧ IR w' base (.slice (some ⟨g, 0, none⟩) xs.length c) (swapL xs i j) ∧ w.grownBy w' (some g) := by
  by_cases hij : i = j
  · subst hij; exact swap_eq base g c i xs w h hi hmax
  · exact swap_ne base g c i j xs w h hi hj hij hmax

theorem run_chk {P : Program} {w : World} (xt : TypeId) (a : Addr) (s : String) : (Builtin.ssaWrapNilChk_ #[xt] xt #[.pointer (some a), strVal "", strVal s]).run P w = .ok (.pointer (some a)) w := rfl
theorem run_method_val {P : Program} {w : World} {t elem : TypeId} {f : FuncId} {i : TypeInfo} {m : Method} {name : String} {n : Nat} (hi : P.info? t = some i) (hm : i.methods.find? (·.name == name) = some m) (hp : m.path = #[]) (hf : m.func = some (f, false))
    (hu : P.underlying t = some (.pointer elem)) (a : Addr) (v : Value) (hl : (loadVar elem a).run P w = .ok v w) :
    (method (n + 1) t (.pointer (some a)) name).run P w = .ok (f, v) w := by
  simp only [method, Sem.run_bind, typeInfo]
  simp [hi, hm, hp, hf, follow, receiverAt, run_underlying hu, Place.get, run_chk, asAddr, hl, Result.andThen, Sem.run_bind]
theorem run_method_ptr {P : Program} {w : World} {t elem : TypeId} {f : FuncId} {i : TypeInfo} {m : Method} {name : String} {n : Nat} (hi : P.info? t = some i) (hm : i.methods.find? (·.name == name) = some m) (hp : m.path = #[]) (hf : m.func = some (f, true))
    (hu : P.underlying t = some (.pointer elem)) (a : Addr) :
    (method (n + 1) t (.pointer (some a)) name).run P w = .ok (f, .pointer (some a)) w := by
  simp only [method, Sem.run_bind, typeInfo]
  simp [hi, hm, hp, hf, follow, receiverAt, run_underlying hu, Place.get, asAddr, Result.andThen, Sem.run_bind]

theorem m80 (name : String) (f : FuncId) (b : Bool) (h : (Try.prog.info? 80).bind (fun i => (i.methods.find? (·.name == name)).map fun m => (m.path, m.func)) = some (#[], some (f, b))) :
    ∃ i m, Try.prog.info? 80 = some i ∧ i.methods.find? (·.name == name) = some m ∧ m.path = #[] ∧ m.func = some (f, b) := by
  obtain ⟨i, hi, h⟩ := Option.bind_eq_some_iff.1 h
  obtain ⟨m, hm, h⟩ := Option.map_eq_some_iff.1 h
  simp only [Prod.mk.injEq] at h
  exact ⟨i, m, hi, hm, h.1, h.2⟩
theorem loadvar74 (B : Nat) (v : Value) (w : World) (hc : w.cell? ⟨B, 0, none⟩ = some v) : (loadVar 74 ⟨B, 0, none⟩).run Try.prog w = .ok v w := by
  simp [loadVar, go_sem, hc]
theorem meth_less (B : Nat) (v : Value) (w : World) (hc : w.cell? ⟨B, 0, none⟩ = some v) : (method 239 80 (.pointer (some ⟨B, 0, none⟩)) "Less").run Try.prog w = .ok (91, v) w := by
  obtain ⟨i, m, hi, hm, hp, hf⟩ := m80 "Less" 91 false (by kernel_rfl)
  exact run_method_val hi hm hp hf Try.underlying80 _ _ (loadvar74 B v w hc)
theorem meth_swap (B : Nat) (v : Value) (w : World) (hc : w.cell? ⟨B, 0, none⟩ = some v) : (method 239 80 (.pointer (some ⟨B, 0, none⟩)) "Swap").run Try.prog w = .ok (92, v) w := by
  obtain ⟨i, m, hi, hm, hp, hf⟩ := m80 "Swap" 92 false (by kernel_rfl)
  exact run_method_val hi hm hp hf Try.underlying80 _ _ (loadvar74 B v w hc)
theorem meth_len (B : Nat) (v : Value) (w : World) (hc : w.cell? ⟨B, 0, none⟩ = some v) : (method 239 80 (.pointer (some ⟨B, 0, none⟩)) "Len").run Try.prog w = .ok (93, v) w := by
  obtain ⟨i, m, hi, hm, hp, hf⟩ := m80 "Len" 93 false (by kernel_rfl)
  exact run_method_val hi hm hp hf Try.underlying80 _ _ (loadvar74 B v w hc)
theorem meth_pop (B : Nat) (w : World) : (method 239 80 (.pointer (some ⟨B, 0, none⟩)) "Pop").run Try.prog w = .ok (94, .pointer (some ⟨B, 0, none⟩)) w := by
  obtain ⟨i, m, hi, hm, hp, hf⟩ := m80 "Pop" 94 true (by kernel_rfl)
  exact run_method_ptr hi hm hp hf Try.underlying80 _
theorem meth_push (B : Nat) (w : World) : (method 239 80 (.pointer (some ⟨B, 0, none⟩)) "Push").run Try.prog w = .ok (95, .pointer (some ⟨B, 0, none⟩)) w := by
  obtain ⟨i, m, hi, hm, hp, hf⟩ := m80 "Push" 95 true (by kernel_rfl)
  exact run_method_ptr hi hm hp hf Try.underlying80 _

theorem less_at (base g c : Nat) (a b : Int) (i j : Nat) (ea : a = i) (eb : b = j) (xs : List Item) (w : World) (h : IR w base (.slice (some ⟨g, 0, none⟩) xs.length c) xs) (hi : i < xs.length) (hj : j < xs.length) (hmax : xs.length ≤ 1000000) :
    Calls Try.prog 91 #[.slice (some ⟨g, 0, none⟩) xs.length c, .int .i64 a, .int .i64 b] w fun e w' => e = .returned (.bool (ltI (it xs i) (it xs j))) ∧ ∃ m, w' = w.drewN m := by
  subst ea eb
  exact less_q base g c i j xs w h hi hj hmax
theorem swap_at (base g c : Nat) (a b : Int) (i j : Nat) (ea : a = i) (eb : b = j) (xs : List Item) (w : World) (h : IR w base (.slice (some ⟨g, 0, none⟩) xs.length c) xs) (hi : i < xs.length) (hj : j < xs.length) (hmax : xs.length ≤ 1000000) :
    Calls Try.prog 92 #[.slice (some ⟨g, 0, none⟩) xs.length c, .int .i64 a, .int .i64 b] w fun e w' => e = .returned (.tuple #[]) ∧ IR w' base (.slice (some ⟨g, 0, none⟩) xs.length c) (swapL xs i j) ∧ w.grownBy w' (some g) := by
  subst ea eb
  exact swap_any base g c i j xs w h hi hj hmax
theorem IR.drewN {W : World} {base : Nat} {v : Value} {xs : List Item} (h : IR W base v xs) (n : Nat) : IR (W.drewN n) base v xs := h
/-- the heap's box is not its row -/
theorem box_row {W : World} {base B g n c : Nat} {v : Value} {xs : List Item} (hb : Boxed W B 78 v) (hr : IR W base (.slice (some ⟨g, 0, none⟩) n c) xs) : B ≠ g := by
  intro e
  subst e
  exact (hb.not_row (by decide) hr) rfl

/-! ### The heap -/
/-- the heap's own value: a pointer to its slice -/
abbrev hv (B : Nat) : Value := .iface 80 (.pointer (some ⟨B, 0, none⟩))
/-- THE HEAP AT B HOLDS THESE ITEMS, in this order; it lies in no block that D names. -/
def HS (W : World) (base B : Nat) (D : Nat → Prop) (xs : List Item) : Prop := ∃ v, Boxed W B 78 v ∧ IR W base v xs ∧ (∀ r, v.ownBlock = some r → ¬ D r) ∧ ¬ D B ∧ (∀ b, D b → b < W.heap.size)
theorem KeepOn.drewN {n₀ : Nat} {D : Nat → Prop} {w W : World} (h : KeepOn n₀ D w W) (n : Nat) : KeepOn n₀ D w (W.drewN n) := ⟨h.os, h.tape, h.output, h.size, h.block⟩
theorem KeepOn.grown {n₀ : Nat} {D : Nat → Prop} {a w w' : World} {row : Option Nat} (h : KeepOn n₀ D a w) (hg : w.grownBy w' row) (hr : ∀ k, row = some k → n₀ ≤ k ∧ ¬ D k) : KeepOn n₀ D a w' := h.trans (KeepOn.of_grown hg hr)
/-- up -/
def upL : Nat → List Item → Nat → List Item
  | 0, xs, _ => xs
  | f + 1, xs, j => if (j - 1) / 2 = j ∨ ltI (it xs j) (it xs ((j - 1) / 2)) = false then xs else upL f (swapL xs ((j - 1) / 2) j) ((j - 1) / 2)

theorem upL_stop {f j : Nat} {xs : List Item} (h : (j - 1) / 2 = j ∨ ltI (it xs j) (it xs ((j - 1) / 2)) = false) : upL f xs j = xs := by
  cases f with
  | zero => rfl
  | succ f => rw [upL, if_pos h]

set_option maxRecDepth 100000 in
set_option maxHeartbeats 1000000 in
theorem up_any (base B : Nat) (a : Int) (j : Nat) (ea : a = j) (xs : List Item) (w : World) (D : Nat → Prop) (h : HS w base B D xs) (hj : j < xs.length) (hmax : xs.length ≤ 1000000) (hB : base ≤ B) :
    Calls Try.prog 57 #[hv B, .int .i64 a] w fun e w' => e = .returned (.tuple #[]) ∧ HS w' base B D (upL j xs j) ∧ KeepOn base D w w' := by
  subst ea
  obtain ⟨R, hR⟩ : ∃ R, upL j xs j = R := ⟨_, rfl⟩
  rw [hR]
  go_enter Try.func57, Try.ntmps57
  go_wp2
  go_loopw [1, 4] (fun q _ wr => ∃ (f j : Nat) (xs : List Item), q = .int .i64 (j : Int) ∧ j ≤ f ∧ Hid (upL f xs j = R) ∧ HS wr base B D xs ∧ j < xs.length ∧ xs.length ≤ 1000000 ∧ KeepOn base D w wr) (fun q _ _ => (intOf q).toNat)
  case atStart => exact ⟨j, j, xs, rfl, Nat.le_refl _, hR, h, hj, hmax, KeepOn.refl _ _ _⟩
  case round =>
    clear hR h
    obtain ⟨f, j, xs, rfl, hf, hR, ⟨v, hbx, hrow, hvD, hBD, hDs⟩, hj, hmax, hBl⟩ := hrel
    have HvD := Lib.hid hvD
    have HDs := Lib.hid hDs
    clear hvD hDs
    have hc := hbx.cell
    cases j with
    | zero =>
      have hRx : Hid (xs = R) := by have := hR.out; rw [upL_stop (.inl rfl)] at this; exact this
      go_wp2
      go_end0
      exact ⟨rfl, hRx.out ▸ ⟨v, hbx, hrow, HvD.out, hBD, HDs.out⟩, hBl⟩
    | succ j =>
      obtain ⟨g, c, rfl⟩ : ∃ g c, v = .slice (some ⟨g, 0, none⟩) xs.length c := by
        obtain ⟨g, c, e, _⟩ := World.ownsRow.form hrow (by omega)
        exact ⟨g, c, e⟩
      have hBg := box_row hbx hrow
      have hgb : base ≤ g := (hrow.lt g rfl).1
      have m1 := fun (w : World) h => meth_less B (.slice (some ⟨g, 0, none⟩) xs.length c) w h
      have m2 := fun (w : World) h => meth_swap B (.slice (some ⟨g, 0, none⟩) xs.length c) w h
      have Hrow := Lib.hid hrow
      have Hbx := Lib.hid hbx
      have hne : ((j : Int) / 2 == (j : Int) + 1) = false := by simp; omega
      clear hrow hbx
      go_wp2_with fail
      refine (less_at base g c _ _ (j + 1) (j / 2) (by omega) (by omega) xs _ Hrow.out hj (by omega) hmax).mono ?_
      rintro e w1 ⟨rfl, m, rfl⟩
      cases hlt : ltI (it xs (j + 1)) (it xs (j / 2)) with
      | false =>
        have hRx : Hid (xs = R) := by have := hR.out; rw [upL_stop (.inr (by simpa using hlt))] at this; exact this
        clear hlt
        go_wp2
        go_end0
        exact ⟨rfl, hRx.out ▸ ⟨_, Hbx.out, Hrow.out, HvD.out, hBD, HDs.out⟩, hBl.drewN _⟩
      | true =>
        have Hlt := Lib.hid hlt
        clear hlt
        go_wp2_with fail
        refine (swap_at base g c _ _ (j / 2) (j + 1) (by omega) (by omega) xs _ (Hrow.out.drewN m) (by omega) hj hmax).mono ?_
        rintro e w2 ⟨rfl, hrow2, hg2⟩
        have hbx2 : Boxed w2 B 78 _ := Boxed.kept (W := wr.drewN m) Hbx.out hg2 (by simpa using hBg)
        go_wp2
        go_roundw
        case rel =>
          obtain ⟨f', rfl⟩ : ∃ f', f = f' + 1 := ⟨f - 1, by omega⟩
          refine ⟨f', j / 2, swapL xs (j / 2) (j + 1), by go_num, by omega, ?_, ⟨_, hbx2, by rw [IR, swapL_len] at *; exact hrow2, HvD.out, hBD, fun b hb => Nat.lt_of_lt_of_le (HDs.out b hb) hg2.size⟩, by rw [swapL_len]; omega, by rw [swapL_len]; exact hmax, (hBl.drewN m).grown hg2 (fun k e => by cases e; exact ⟨hgb, HvD.out g rfl⟩)⟩
          have := hR.out
          rw [upL, if_neg (by simp; exact ⟨by omega, Hlt.out⟩)] at this
          exact this
        case measure => simp [intOf]; omega
end Go.Proofs.Ytlgmocmekmppeaa

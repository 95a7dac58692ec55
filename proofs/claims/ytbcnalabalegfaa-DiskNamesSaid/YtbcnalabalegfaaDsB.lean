/- a disk: plain, and in memory. -/
import Derived.RangeFuncNested
import Derived.RangeFuncBound
import Derived.RangeFuncCalls
import Derived.RangeFuncLeaves
import Derived.Shelf.Abstract
import Derived.Shelf.RegionOpen
import Derived.WalkKit
import Derived.OwnWalkIn
import Derived.TacticsInMore
import Derived.LoopNIn
import Derived.LoopIn
import Derived.Outline
import Derived.Lib.Hide
import Derived.Lib.SliceRun
import Derived.IntWalk
import Derived.WalkLawsBesides
import Derived.WalkSpells
import Derived.Laws.BitsAllLaws
import Derived.Lib.ConvBytes
import Derived.Maps.AppendAt
import Derived.Lib.AppendStr
import Derived.Lib.SlBytesConst
import Derived.Laws.AppendOwnNone
import Derived.Laws.OwnMore
import Derived.Laws.BytesArg
import Derived.Deep.RegionHeld3
import Derived.BigQuiet
import Derived.Deep.RegionLaw
import Derived.Deep.QuietTactic
import Derived.Lib.OthersKept
import Derived.Test.YtbcnalabalegfaaProg
import Derived.Deep.DeepFit
import Derived.WalkSpells
import Derived.Test.YtbcnalabalegfaaDsA
set_option linter.unusedVariables false
set_option linter.unusedSimpArgs false
namespace Go.Proofs.Ytbcnalabalegfaa
open Go Go.RowKit Go.Shelf
open Go.Proofs (encStr)

/-! ### plain -/
/-- a disk: files by name (bytes, how many are safe) -/
structure Dsk where
  f : List UInt8 → Option (List UInt8 × Nat)
  room : Int
  used : Int
  fuse : Int
  down : Bool
/-- one change more -/
def Dsk.chg (d : Dsk) : Dsk := if 0 < d.fuse then { d with fuse := d.fuse - 1, down := decide (d.fuse - 1 = 0) } else d
def flen (o : Option (List UInt8 × Nat)) : Nat := match o with | none => 0 | some (b, _) => b.length
def fold (o : Option (List UInt8 × Nat)) : List UInt8 × Nat := o.getD ([], 0)
def Dsk.app (d : Dsk) (x b : List UInt8) : Dsk := { d with f := updF d.f x (some ((fold (d.f x)).1 ++ b, (fold (d.f x)).2)), used := d.used + b.length }
def Dsk.lose (d : Dsk) (x : List UInt8) : Dsk := { d with f := updF d.f x none, used := d.used - flen (d.f x) }
def Dsk.mk0 (d : Dsk) (x : List UInt8) : Dsk := { d.lose x with f := updF d.f x (some ([], 0)) }
def Dsk.safe (d : Dsk) (x : List UInt8) : Dsk := { d with f := updF d.f x ((d.f x).map fun p => (p.1, p.1.length)) }
def Dsk.mv (d : Dsk) (x y : List UInt8) : Dsk := { d with f := updF (updF (updF d.f y none) x none) y (d.f x), used := d.used - flen (d.f y) }
/-- numbers that are far from the ends -/
def Dsk.small (d : Dsk) : Prop := -1000000000000 ≤ d.used ∧ d.used ≤ 1000000000000 ∧ -1000000000000 ≤ d.room ∧ d.room ≤ 1000000000000 ∧ 0 ≤ d.fuse ∧ d.fuse ≤ 9223372036854775807
theorem updF_idem {α β : Type} [DecidableEq α] (g : α → Option β) (x : α) (o o' : Option β) : updF (updF g x o) x o' = updF g x o' := by
  funext y; unfold updF; split <;> rfl
theorem updF_self {α β : Type} [DecidableEq α] (g : α → Option β) (x : α) : updF g x (g x) = g := by
  funext y; unfold updF; split
  · rename_i h; rw [h]
  · rfl

/-! ### in memory -/
/-- the disk's own cells -/
def DC (W : World) (B m : Nat) (room used fuse : Int) (down : Bool) : Prop := W.heap[B]? = some (.cells #[.map (some m), .int .i64 room, .int .i64 used, .int .i64 fuse, .bool down] 37 (0, 0))
theorem DC.cell {W : World} {B m : Nat} {room used fuse : Int} {down : Bool} (h : DC W B m room used fuse down) :
    W.cell? ⟨B, 0, none⟩ = some (.map (some m)) ∧ W.cell? ⟨B, 1, none⟩ = some (.int .i64 room) ∧ W.cell? ⟨B, 2, none⟩ = some (.int .i64 used) ∧ W.cell? ⟨B, 3, none⟩ = some (.int .i64 fuse) ∧ W.cell? ⟨B, 4, none⟩ = some (.bool down) := by
  unfold DC at h
  refine ⟨?_, ?_, ?_, ?_, ?_⟩ <;> simp [World.cell?, h]
theorem DC.frozen {W : World} {B m : Nat} {room used fuse : Int} {down : Bool} (h : DC W B m room used fuse down) (i : Nat) : W.frozen? ⟨B, i, none⟩ = false := by
  unfold DC at h
  simp [World.frozen?, h]
theorem DC.set3 {W : World} {B m : Nat} {room used fuse : Int} {down : Bool} (h : DC W B m room used fuse down) (f : Int) : DC (W.setCell ⟨B, 3, none⟩ (.int .i64 f)) B m room used f down := by
  unfold DC at *
  simp [World.setCell, h, Array.getElem?_modify]
theorem DC.set4 {W : World} {B m : Nat} {room used fuse : Int} {down : Bool} (h : DC W B m room used fuse down) (f : Bool) : DC (W.setCell ⟨B, 4, none⟩ (.bool f)) B m room used fuse f := by
  unfold DC at *
  simp [World.setCell, h, Array.getElem?_modify]
theorem DC.set2 {W : World} {B m : Nat} {room used fuse : Int} {down : Bool} (h : DC W B m room used fuse down) (f : Int) : DC (W.setCell ⟨B, 2, none⟩ (.int .i64 f)) B m room f fuse down := by
  unfold DC at *
  simp [World.setCell, h, Array.getElem?_modify]
/-- a file's own cells -/
def FC (W : World) (B : Nat) (v : Value) (safe : Int) : Prop := W.heap[B]? = some (.cells #[v, .int .i64 safe] 41 (0, 0))
theorem FC.cell {W : World} {B : Nat} {v : Value} {safe : Int} (h : FC W B v safe) : W.cell? ⟨B, 0, none⟩ = some v ∧ W.cell? ⟨B, 1, none⟩ = some (.int .i64 safe) := by
  unfold FC at h
  refine ⟨?_, ?_⟩ <;> simp [World.cell?, h]
theorem FC.frozen {W : World} {B : Nat} {v : Value} {safe : Int} (h : FC W B v safe) (i : Nat) : W.frozen? ⟨B, i, none⟩ = false := by
  unfold FC at h
  simp [World.frozen?, h]
theorem FC.set1 {W : World} {B : Nat} {v : Value} {safe : Int} (h : FC W B v safe) (f : Int) : FC (W.setCell ⟨B, 1, none⟩ (.int .i64 f)) B v f := by
  unfold FC at *
  simp [World.setCell, h, Array.getElem?_modify]
theorem FC.set0 {W : World} {B : Nat} {v : Value} {safe : Int} (h : FC W B v safe) (u : Value) : FC (W.setCell ⟨B, 0, none⟩ u) B u safe := by
  unfold FC at *
  simp [World.setCell, h, Array.getElem?_modify]
/-- **a disk in memory**: its cells in B, its map in m; each file's cells where g tells, its slice sl; S: the blocks -/
structure DKat (W : World) (B m n : Nat) (g : List UInt8 → Option Nat) (sl : List UInt8 → Value) (d : Dsk) (S : Nat → Prop) : Prop where
  cells : DC W B m d.room d.used d.fuse d.down
  map : PM 9 litS W m n g
  inB : S B
  inM : S m
  dom : ∀ x, (g x).isSome = (d.f x).isSome
  file : ∀ x F, g x = some F → ∃ b s, d.f x = some (b, s) ∧ s ≤ b.length ∧ b.length ≤ 1000000000 ∧ FC W F (sl x) (s : Int) ∧ OB W 0 (sl x) b ∧ S F ∧ ∀ r, (sl x).ownBlock = some r → S r
  inj : ∀ x y F, g x = some F → g y = some F → x = y
  rows : ∀ x y r, (g x).isSome = true → (g y).isSome = true → (sl x).ownBlock = some r → (sl y).ownBlock = some r → x = y
  lt : ∀ b, S b → b < W.heap.size
/-- **a disk in memory** -/
def DK (W : World) (B n : Nat) (d : Dsk) (S : Nat → Prop) : Prop := ∃ m g sl, DKat W B m n g sl d S
/-- .. behind a call: blocks of S have turned, or are new -/
def DPost (w : World) (B n : Nat) (d' : Dsk) (S : Nat → Prop) (w' : World) : Prop := ∃ S', DK w' B n d' S' ∧ Chg S w w' ∧ Fr S S' w
variable {W W' : World} {B m n : Nat} {g : List UInt8 → Option Nat} {sl : List UInt8 → Value} {d : Dsk} {S : Nat → Prop}
theorem DKat.keep (h : DKat W B m n g sl d S) (hb : ∀ b, S b → W'.heap[b]? = W.heap[b]?) (hs : W.heap.size ≤ W'.heap.size) : DKat W' B m n g sl d S where
  cells := (hb B h.inB).trans h.cells
  map := h.map.block (hb m h.inM)
  inB := h.inB
  inM := h.inM
  dom := h.dom
  file := fun x F hx => by
    obtain ⟨b, s, h1, h2, h2', h3, h4, h5, h6⟩ := h.file x F hx
    exact ⟨b, s, h1, h2, h2', (hb F h5).trans h3, ownsRow_blk h4 fun r hr => hb r (h6 r hr), h5, h6⟩
  inj := h.inj
  rows := h.rows
  lt := fun b hb' => Nat.lt_of_lt_of_le (h.lt b hb') hs
theorem DKat.chg {S' : Nat → Prop} (h : DKat W B m n g sl d S) (hc : Chg S' W W') (hS : ∀ b, S b → ¬ S' b) : DKat W' B m n g sl d S :=
  h.keep (fun b hb => hc.block b (h.lt b hb) (hS b hb)) hc.size
theorem DKat.below (h : DKat W B m n g sl d S) (hb : Below W.heap.size W W') : DKat W' B m n g sl d S := h.keep (fun b hS => hb.block b (h.lt b hS)) hb.size
theorem DKat.alloc (h : DKat W B m n g sl d S) (o : Obj) : DKat (W.alloc o) B m n g sl d S := h.below ((Below.refl _ _).alloc (Nat.le_refl _) _)
theorem DKat.mono {n' : Nat} (h : DKat W B m n g sl d S) (hn : n ≤ n') : DKat W B m n' g sl d S := { h with map := h.map.mono hn }
theorem DKat.neB (h : DKat W B m n g sl d S) {x : List UInt8} {F : Nat} (hx : g x = some F) : F ≠ B ∧ F ≠ m ∧ ∀ y r, (g y).isSome = true → (sl y).ownBlock = some r → r ≠ B ∧ r ≠ m ∧ r ≠ F := by
  obtain ⟨b, s, h1, h2, h2', h3, h4, h5, h6⟩ := h.file x F hx
  have hc := h.cells
  obtain ⟨es, cl, hm⟩ := h.map.obj
  unfold DC at hc
  unfold FC at h3
  refine ⟨fun e => ?_, fun e => ?_, fun y r hy hr => ?_⟩
  · rw [e, hc] at h3; simp at h3
  · rw [e, hm] at h3; simp at h3
  · obtain ⟨G, hG⟩ := Option.isSome_iff_exists.1 hy
    obtain ⟨b', s', -, -, -, -, k4, -, -⟩ := h.file y G hG
    obtain ⟨cur, hcur⟩ := ownsRow_obj k4 hr
    refine ⟨fun e => ?_, fun e => ?_, fun e => ?_⟩
    · rw [e, hc] at hcur; simp at hcur
    · rw [e, hm] at hcur; simp at hcur
    · rw [e, h3] at hcur; simp at hcur
theorem DKat.rowNe (h : DKat W B m n g sl d S) {y : List UInt8} {r : Nat} (hy : (g y).isSome = true) (hr : (sl y).ownBlock = some r) : r ≠ B ∧ r ≠ m := by
  obtain ⟨G, hG⟩ := Option.isSome_iff_exists.1 hy
  exact ⟨((h.neB hG).2.2 y r hy hr).1, ((h.neB hG).2.2 y r hy hr).2.1⟩
theorem DKat.mB (h : DKat W B m n g sl d S) : m ≠ B := fun e => by
  have hc := h.cells
  obtain ⟨es, cl, hm⟩ := h.map.obj
  unfold DC at hc
  rw [← e, hm] at hc; simp at hc
/-- the disk's cells turn, no others -/
theorem DKat.setB (h : DKat W B m n g sl d S) (hb : ∀ b, S b → b ≠ B → W'.heap[b]? = W.heap[b]?) (hs : W.heap.size ≤ W'.heap.size) (room used fuse : Int) (down : Bool) (hc : DC W' B m room used fuse down) :
    DKat W' B m n g sl ⟨d.f, room, used, fuse, down⟩ S where
  cells := hc
  map := h.map.block (hb m h.inM h.mB)
  inB := h.inB
  inM := h.inM
  dom := h.dom
  file := fun x F hx => by
    obtain ⟨b, s, h1, h2, h2', h3, h4, h5, h6⟩ := h.file x F hx
    exact ⟨b, s, h1, h2, h2', (hb F h5 (h.neB hx).1).trans h3, ownsRow_blk h4 fun r hr => hb r (h6 r hr) (h.rowNe (by rw [hx]; rfl) hr).1, h5, h6⟩
  inj := h.inj
  rows := h.rows
  lt := fun b hb' => Nat.lt_of_lt_of_le (h.lt b hb') hs
theorem DKat.set3 (h : DKat W B m n g sl d S) (f : Int) : DKat (W.setCell ⟨B, 3, none⟩ (.int .i64 f)) B m n g sl { d with fuse := f } S :=
  h.setB (fun b _ hne => heap_setCell_other W ⟨B, 3, none⟩ b _ hne) (by simp [World.setCell]) _ _ _ _ (h.cells.set3 f)
theorem DKat.set4 (h : DKat W B m n g sl d S) (f : Bool) : DKat (W.setCell ⟨B, 4, none⟩ (.bool f)) B m n g sl { d with down := f } S :=
  h.setB (fun b _ hne => heap_setCell_other W ⟨B, 4, none⟩ b _ hne) (by simp [World.setCell]) _ _ _ _ (h.cells.set4 f)
theorem DKat.set2 (h : DKat W B m n g sl d S) (f : Int) : DKat (W.setCell ⟨B, 2, none⟩ (.int .i64 f)) B m n g sl { d with used := f } S :=
  h.setB (fun b _ hne => heap_setCell_other W ⟨B, 2, none⟩ b _ hne) (by simp [World.setCell]) _ _ _ _ (h.cells.set2 f)
/-- one file's cells turn, no others -/
theorem DKat.setF (h : DKat W B m n g sl d S) {x : List UInt8} {F : Nat} (hx : g x = some F) {S' : Nat → Prop} (hS : ∀ b, S b → S' b) (hlt : ∀ b, S' b → b < W'.heap.size) (hb : ∀ b, S b → b ≠ F → some b ≠ (sl x).ownBlock → W'.heap[b]? = W.heap[b]?)
    (v : Value) (b : List UInt8) (s : Nat) (hsb : s ≤ b.length) (hlen : b.length ≤ 1000000000) (hF : FC W' F v (s : Int)) (hO : OB W' 0 v b) (hr : ∀ r, v.ownBlock = some r → S' r ∧ (S r → (sl x).ownBlock = some r)) :
    DKat W' B m n g (fun y => if y = x then v else sl y) { d with f := updF d.f x (some (b, s)) } S' := by
  have hgx : (g x).isSome = true := by rw [hx]; rfl
  have hrn : ∀ r, (sl x).ownBlock = some r → r ≠ B ∧ r ≠ m := fun r hr => h.rowNe hgx hr
  refine ⟨?_, ?_, hS B h.inB, hS m h.inM, ?_, ?_, h.inj, ?_, hlt⟩
  · exact (hb B h.inB (h.neB hx).1.symm (fun e => (hrn B e.symm).1 rfl)).trans h.cells
  · exact h.map.block (hb m h.inM (h.neB hx).2.1.symm (fun e => (hrn m e.symm).2 rfl))
  · intro y
    by_cases e : y = x
    · subst e; show _ = (updF d.f y _ y).isSome; rw [updF_same, hgx]; rfl
    · show _ = (updF d.f x _ y).isSome; rw [updF_other _ _ e]; exact h.dom y
  · intro y G hy
    by_cases e : y = x
    · subst e
      rw [hx] at hy; cases hy
      obtain ⟨b0, s0, h1, h2, h2', h3, h4, h5, h6⟩ := h.file y F hx
      refine ⟨b, s, updF_same _ _ _, hsb, hlen, ?_, ?_, hS F h5, fun r hr' => ?_⟩
      · simpa using hF
      · simpa using hO
      · rw [if_pos rfl] at hr'; exact (hr r hr').1
    · obtain ⟨b0, s0, h1, h2, h2', h3, h4, h5, h6⟩ := h.file y G hy
      have hGF : G ≠ F := fun e' => e (h.inj y x F (by rw [← e']; exact hy) hx)
      have hgy : (g y).isSome = true := by rw [hy]; rfl
      refine ⟨b0, s0, by show updF d.f x _ y = _; rw [updF_other _ _ e]; exact h1, h2, h2', ?_, ?_, hS G h5, fun r hr' => ?_⟩
      · rw [if_neg e]
        exact (hb G h5 hGF (fun e' => ((h.neB hy).2.2 x G hgx e'.symm).2.2 rfl)).trans h3
      · rw [if_neg e]
        refine ownsRow_blk h4 fun r hr' => hb r (h6 r hr') (fun e' => ((h.neB hx).2.2 y r hgy hr').2.2 e') (fun e' => e (h.rows y x r hgy hgx hr' e'.symm))
      · rw [if_neg e] at hr'
        exact hS r (h6 r hr')
  · intro y z r hy hz hry hrz
    by_cases ey : y = x
    · by_cases ez : z = x
      · rw [ey, ez]
      · subst ey
        rw [if_pos rfl] at hry
        rw [if_neg ez] at hrz
        obtain ⟨G, hG⟩ := Option.isSome_iff_exists.1 hz
        obtain ⟨b0, s0, h1, h2, h2', h3, h4, h5, h6⟩ := h.file z G hG
        exact h.rows y z r hy hz ((hr r hry).2 (h6 r hrz)) hrz
    · rw [if_neg ey] at hry
      by_cases ez : z = x
      · subst ez
        rw [if_pos rfl] at hrz
        obtain ⟨G, hG⟩ := Option.isSome_iff_exists.1 hy
        obtain ⟨b0, s0, h1, h2, h2', h3, h4, h5, h6⟩ := h.file y G hG
        exact h.rows y z r hy hz hry ((hr r hrz).2 (h6 r hry))
      · rw [if_neg ez] at hrz
        exact h.rows y z r hy hz hry hrz
end Go.Proofs.Ytbcnalabalegfaa

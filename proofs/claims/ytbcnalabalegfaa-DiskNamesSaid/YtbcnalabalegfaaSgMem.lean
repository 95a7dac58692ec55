/- what turns in memory; maps of pointers; a file's cells; a disk. -/
import Derived.RangeFuncNested
import Derived.RangeFuncBound
import Derived.RangeFuncCalls
import Derived.RangeFuncLeaves
import Derived.Shelf.Abstract
import Derived.Shelf.RegionOpen
import Derived.WalkKit
import Derived.OwnWalkIn
import Derived.TacticsInMore
import Derived.LoopNIn
import Derived.LoopIn
import Derived.Outline
import Derived.Lib.Hide
import Derived.Lib.SliceRun
import Derived.IntWalk
import Derived.WalkLawsBesides
import Derived.WalkSpells
import Derived.Laws.BitsAllLaws
import Derived.Lib.ConvBytes
import Derived.Maps.AppendAt
import Derived.Lib.AppendStr
import Derived.Lib.SlBytesConst
import Derived.Laws.AppendOwnNone
import Derived.Laws.OwnMore
import Derived.Laws.BytesArg
import Derived.Deep.RegionHeld3
import Derived.BigQuiet
import Derived.Deep.RegionLaw
import Derived.Deep.QuietTactic
import Derived.Lib.OthersKept
import Derived.Test.YtbcnalabalegfaaProg
import Derived.Deep.DeepFit
import Derived.Maps.OwnOps
import Derived.Maps.OwnIn
import Derived.Maps.OwnSet
import Derived.Maps.Views
import Derived.Maps.Range
import Derived.StringKeys
import Derived.OpenShut
import Derived.Sort.KeysCollected
import Derived.Test.YtbcnalabalegfaaSgBase
import Derived.Test.YtbcnalabalegfaaDkA
set_option linter.unusedVariables false
set_option linter.unusedSimpArgs false
namespace Go.Proofs.Ytbcnalabalegfaa
open Go Go.RowKit Go.Shelf Go.Maps Go.WideAt Go.WideMaps
open Go.Proofs (encStr)

/-! ### what turns -/
/-- only blocks that S names have turned -/
structure Chg (S : Nat → Prop) (w w' : World) : Prop where
  os : w'.os = w.os
  tape : w'.tape = w.tape
  output : w'.output = w.output
  size : w.heap.size ≤ w'.heap.size
  block : ∀ k, k < w.heap.size → ¬ S k → w'.heap[k]? = w.heap[k]?
theorem Chg.refl (S : Nat → Prop) (w : World) : Chg S w w := ⟨rfl, rfl, rfl, Nat.le_refl _, fun _ _ _ => rfl⟩
/-- S' are blocks of S and new ones -/
def Fr (S S' : Nat → Prop) (w : World) : Prop := ∀ b, S' b → S b ∨ w.heap.size ≤ b
theorem Fr.refl (S : Nat → Prop) (w : World) : Fr S S w := fun _ h => .inl h
theorem Chg.next {S S' : Nat → Prop} {a b c : World} (h : Chg S a b) (k : Chg S' b c) (f : Fr S S' a) : Chg S a c :=
  ⟨k.os.trans h.os, k.tape.trans h.tape, k.output.trans h.output, Nat.le_trans h.size k.size, fun i hi hs => (k.block i (Nat.lt_of_lt_of_le hi h.size) (fun e => (f i e).elim hs (fun e => by omega))).trans (h.block i hi hs)⟩
theorem Chg.trans {S : Nat → Prop} {a b c : World} (h : Chg S a b) (k : Chg S b c) : Chg S a c := h.next k (Fr.refl S a)
theorem Fr.next {S S' S'' : Nat → Prop} {a b : World} (h : Fr S S' a) (k : Fr S' S'' b) (hs : a.heap.size ≤ b.heap.size) : Fr S S'' a := fun i hi => (k i hi).elim (h i) (fun e => .inr (Nat.le_trans hs e))
theorem Chg.mono {S S' : Nat → Prop} {a b : World} (h : Chg S a b) (hs : ∀ k, S k → S' k) : Chg S' a b := ⟨h.os, h.tape, h.output, h.size, fun k hk hn => h.block k hk (fun e => hn (hs k e))⟩
theorem Chg.of_below {S : Nat → Prop} {a b : World} (h : Below a.heap.size a b) : Chg S a b := ⟨h.os, h.tape, h.output, h.size, fun k hk _ => h.block k hk⟩
theorem Chg.of_grown {S : Nat → Prop} {a b : World} {row : Option Nat} (h : a.grownBy b row) (hr : ∀ k, row = some k → S k) : Chg S a b := ⟨h.os, h.tape, h.output, h.size, fun k hk hn => h.block k hk (fun e => hn (hr k e.symm))⟩
theorem Chg.alloc (S : Nat → Prop) (w : World) (o : Obj) : Chg S w (w.alloc o) := .of_below ((Below.refl _ _).alloc (Nat.le_refl _) _)
theorem Chg.drew (S : Nat → Prop) (w : World) : Chg S w w.drew := .of_below (Below.refl _ _).drew
theorem Chg.set {S : Nat → Prop} (w : World) (a : Addr) (v : Value) (h : S a.block) : Chg S w (w.setCell a v) := by
  refine ⟨rfl, rfl, rfl, by simp [World.setCell], fun k hk hn => ?_⟩
  have hne : k ≠ a.block := fun e => hn (by rw [e]; exact h)
  exact heap_setCell_other w a k v hne
theorem Chg.below {S : Nat → Prop} {n : Nat} {a b : World} (h : Chg S a b) (hn : n ≤ a.heap.size) (hS : ∀ k, S k → n ≤ k) : Below n a b := ⟨h.os, h.tape, h.output, h.size, fun k hk => h.block k (Nat.lt_of_lt_of_le hk hn) (fun e => by have := hS k e; omega)⟩
theorem Chg.keepOn {S D : Nat → Prop} {n : Nat} {a b : World} (h : Chg S a b) (hn : ∀ k, S k → n ≤ k ∧ ¬ D k) : KeepOn n D a b :=
  ⟨h.os, h.tape, h.output, h.size, fun k hk hd => h.block k hk (fun e => by obtain ⟨h1, h2⟩ := hn k e; rcases hd with hd | hd; omega; exact h2 hd)⟩

/-! ### maps of pointers -/
/-- a pointer to a block, as a datum -/
def ptrR (v : Value) : Option (DataW Unit × List MemPlace) :=
  match v with
  | .pointer none => some (.lit (.bool false), [])
  | .pointer (some ⟨b, 0, none⟩) => some (.lit (.int .i64 (b : Int)), [])
  | _ => none
def ptrV : Option Nat → Value
  | none => .pointer none
  | some b => .pointer (some ⟨b, 0, none⟩)
def ptrD : Option Nat → DataW Unit
  | none => .lit (.bool false)
  | some b => .lit (.int .i64 (b : Int))
theorem ptrR_mk (o : Option Nat) : ptrR (ptrV o) = some (ptrD o, []) := by cases o <;> rfl
theorem ptrR_inv {v : Value} {d : DataW Unit} {ps : List MemPlace} (h : ptrR v = some (d, ps)) : ∃ o, v = ptrV o ∧ d = ptrD o := by
  unfold ptrR at h
  split at h
  · simp only [Option.some.injEq, Prod.mk.injEq] at h; exact ⟨none, rfl, h.1.symm⟩
  · rename_i b; simp only [Option.some.injEq, Prod.mk.injEq] at h; exact ⟨some b, rfl, h.1.symm⟩
  · cases h
theorem ptrD_inj {a b : Option Nat} (h : ptrD a = ptrD b) : a = b := by
  cases a <;> cases b <;> simp [ptrD] at h ⊢
  omega
/-- D has at each key the pointer that g tells -/
def MapsTo {α : Type} (mk : α → Lit) (D : DataW Unit) (g : α → Option Nat) : Prop := ∀ x, (∀ z, D.atKey (mk x) z = match g x with | none => z | some b => ptrD (some b)) ∧ has D (mk x) = (g x).isSome
def updF {α β : Type} [DecidableEq α] (g : α → Option β) (x : α) (o : Option β) : α → Option β := fun y => if y = x then o else g y
theorem updF_same {α β : Type} [DecidableEq α] (g : α → Option β) (x : α) (o : Option β) : updF g x o x = o := by simp [updF]
theorem updF_other {α β : Type} [DecidableEq α] (g : α → Option β) {x y : α} (o : Option β) (h : y ≠ x) : updF g x o y = g y := by simp [updF, h]
/-- block m is a map, of at most n keys, that has at each key the pointer that g tells -/
def PM {α : Type} (kt : TypeId) (mk : α → Lit) (W : World) (m n : Nat) (g : α → Option Nat) : Prop := ∃ D, W.ownsMap Try.prog kt ptrR m n D ∧ MapsTo mk D g
section
variable {α : Type} [DecidableEq α] {kt : TypeId} {mk : α → Lit} {W : World} {m n : Nat} {g : α → Option Nat}
omit [DecidableEq α] in
theorem PM.new (W : World) : PM kt mk (W.alloc (.map #[] 0)) W.heap.size 0 (fun _ => none) := ⟨_, World.ownsMap_made _ _ _ _, fun x => ⟨fun z => rfl, by simp [has]⟩⟩
omit [DecidableEq α] in
theorem PM.lt (h : PM kt mk W m n g) : m < W.heap.size := by obtain ⟨D, h, _⟩ := h; exact h.lt
omit [DecidableEq α] in
theorem PM.block {W' : World} (h : PM kt mk W m n g) (hb : W'.heap[m]? = W.heap[m]?) : PM kt mk W' m n g := by
  obtain ⟨D, ⟨es, clock, h1, h2⟩, h3⟩ := h
  exact ⟨D, ⟨es, clock, hb.trans h1, h2⟩, h3⟩
omit [DecidableEq α] in
theorem PM.mono {n' : Nat} (h : PM kt mk W m n g) (hn : n ≤ n') : PM kt mk W m n' g := by obtain ⟨D, h, h'⟩ := h; exact ⟨D, h.mono hn, h'⟩
omit [DecidableEq α] in
theorem PM.obj (h : PM kt mk W m n g) : ∃ es c, W.heap[m]? = some (.map es c) := by obtain ⟨D, ⟨es, c, h, _⟩, _⟩ := h; exact ⟨es, c, h⟩
omit [DecidableEq α] in
theorem PM.look {t e : TypeId} (h : PM kt mk W m n g) (K : Maps.Keyed Try.prog kt) (ht : Try.prog.underlying t = some (.map kt e)) (hz : ∀ w, (zeroValue e).run Try.prog w = .ok (.pointer none) w) {key : Value} {x : α} (hk : keyOf Try.prog kt key = some (mk x)) :
    (Instr.lookup t (.map (some m)) key false).run Try.prog W = .ok (ptrV (g x)) W := by
  obtain ⟨D, h1, h2⟩ := h
  obtain ⟨v, ps, hr, hv⟩ := h1.lookup K ht (hz W) (ptrR_mk none) hk
  obtain ⟨o, rfl, ho⟩ := ptrR_inv hv
  rw [(h2 x).1] at ho
  have : g x = o := by
    cases hg : g x with
    | none => rw [hg] at ho; exact ptrD_inj ho
    | some b => rw [hg] at ho; exact ptrD_inj ho
  rw [this]; exact hr
theorem PM.put {t e : TypeId} (h : PM kt mk W m n g) (hinj : ∀ x y, mk x = mk y → x = y) (hkl : ∀ x, WideAt.IsKeyLit (mk x)) (K : Maps.Keyed Try.prog kt) (ht : Try.prog.underlying t = some (.map kt e)) (hn : n ≤ 1000000) {key : Value} {x : α} (hk : keyOf Try.prog kt key = some (mk x)) (b : Nat) :
    ∃ w', (Instr.mapUpdate t (.map (some m)) key (.pointer (some ⟨b, 0, none⟩))).run Try.prog W = .ok () w' ∧ PM kt mk w' m (n + 1) (updF g x (some b)) ∧ W.grownBy w' (some m) := by
  obtain ⟨D, h1, h2⟩ := h
  have hD : IsMap D := h1.isMap
  obtain ⟨w', hr, h3, h4⟩ := h1.update K ht (by unfold maxLen; omega) hk (ptrR_mk (some b))
  refine ⟨w', hr, ⟨_, h3, fun y => ?_⟩, h4⟩
  by_cases e : y = x
  · subst e
    rw [updF_same]
    exact ⟨fun z => atKey_put_same hD (hkl y) _ z, by rw [has_put_same hD (hkl y)]; rfl⟩
  · have hne : mk y ≠ mk x := fun h => e (hinj _ _ h)
    rw [updF_other _ _ e]
    exact ⟨fun z => by rw [atKey_put_other hne, (h2 y).1], by rw [has_put_other hne, (h2 y).2]⟩
theorem PM.drop {t e : TypeId} (h : PM kt mk W m n g) (hinj : ∀ x y, mk x = mk y → x = y) (K : Maps.Keyed Try.prog kt) (ht : Try.prog.underlying t = some (.map kt e)) {key : Value} {x : α} (hk : keyOf Try.prog kt key = some (mk x)) (ty : TypeId) :
    ∃ w', (Builtin.delete_ #[t, kt] ty #[.map (some m), key]).run Try.prog W = .ok (.tuple #[]) w' ∧ PM kt mk w' m n (updF g x none) ∧ W.grownBy w' (some m) := by
  obtain ⟨D, h1, h2⟩ := h
  obtain ⟨w', hr, h3, h4⟩ := h1.drop K ht hk ty
  refine ⟨w', hr, ⟨_, h3, fun y => ?_⟩, h4.grown⟩
  by_cases e : y = x
  · subst e
    rw [updF_same]
    exact ⟨fun z => atKey_del_same z, by rw [has_del_same]; rfl⟩
  · have hne : mk y ≠ mk x := fun h => e (hinj _ _ h)
    rw [updF_other _ _ e]
    exact ⟨fun z => by rw [atKey_del_other hne, (h2 y).1], by rw [has_del_other hne, (h2 y).2]⟩
end
theorem keyS : Maps.Keyed Try.prog 9 := Maps.string_keyed Try.underlying9
theorem keyI : Maps.Keyed Try.prog 3 := Maps.int_keyed Try.underlying3
def litS (x : List UInt8) : Lit := .string x
def litI (x : Int) : Lit := .int .i64 x
theorem litS_inj (x y : List UInt8) (h : litS x = litS y) : x = y := by simpa [litS] using h
theorem litI_inj (x y : Int) (h : litI x = litI y) : x = y := by simpa [litI] using h
theorem litS_key (x : List UInt8) : WideAt.IsKeyLit (litS x) := trivial
theorem litI_key (x : Int) : WideAt.IsKeyLit (litI x) := trivial
theorem keyOfS (x : List UInt8) (hs : x.length ≤ 1000000) : keyOf Try.prog 9 (encStr x) = some (litS x) := by
  have hx : (⟨x.toArray⟩ : ByteArray).size ≤ maxLen := by
    show x.toArray.size ≤ maxLen
    unfold maxLen; simp; omega
  exact keyOf_string_mk (P := Try.prog) Try.underlying9 hx
theorem keyOfI (x : Int) (h : -1000000000000 ≤ x ∧ x ≤ 1000000000000) : keyOf Try.prog 3 (.int .i64 x) = some (litI x) :=
  keyOf_int_mk (P := Try.prog) Try.underlying3 (by simp only [Lit.wf, decide_eq_true_eq, Bool.and_eq_true]; rw [show IntKind.i64.min = -9223372036854775808 by decide, show IntKind.i64.max = 9223372036854775807 by decide]; omega)
end Go.Proofs.Ytbcnalabalegfaa

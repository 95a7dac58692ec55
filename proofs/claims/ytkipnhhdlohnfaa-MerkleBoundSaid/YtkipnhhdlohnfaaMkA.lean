/- Slices of sums (arrays of 32 bytes): how they read, cuts, appends. -/
import Derived.RangeFuncNested
import Derived.RangeFuncBound
import Derived.RangeFuncCalls
import Derived.RangeFuncLeaves
import Derived.Shelf.Abstract
import Derived.Shelf.RegionOpen
import Derived.WalkKit
import Derived.OwnWalkIn
import Derived.TacticsInMore
import Derived.LoopNIn
import Derived.LoopIn
import Derived.Outline
import Derived.Lib.Hide
import Derived.Lib.SliceRun
import Derived.IntWalk
import Derived.WalkLawsBesides
import Derived.WalkSpells
import Derived.Laws.BitsAllLaws
import Derived.Lib.ConvBytes
import Derived.Maps.AppendAt
import Derived.Lib.AppendStr
import Derived.Lib.SlBytesConst
import Derived.Laws.AppendOwnNone
import Derived.Laws.OwnMore
import Derived.Laws.BytesArg
import Derived.Deep.RegionHeld3
import Derived.BigQuiet
import Derived.Deep.RegionLaw
import Derived.Deep.QuietTactic
import Derived.Lib.OthersKept
import Derived.Test.YtkipnhhdlohnfaaProg
import Derived.Deep.DeepFit
import Derived.Deep.MidRow
import Derived.Test.YtkipnhhdlohnfaaDgP
import Derived.Test.YtkipnhhdlohnfaaDgI
set_option linter.unusedVariables false
set_option linter.unusedSimpArgs false
namespace Go.Proofs.Ytkipnhhdlohnfaa
open Go Go.RowKit Go.Shelf

/-- A VALUE IS A SLICE THAT READS AS THESE SUMS. -/
def HS (W : World) (v : Value) (ls : List (List UInt8)) : Prop :=
  (∀ x ∈ ls, x.length = 32) ∧ ((v = .slice none 0 0 ∧ ls = []) ∨
  ∃ ad c, v = .slice (some ad) ls.length c ∧ (ls.length ≤ c ∧ c ≤ 9223372036854775807) ∧ (0 < ls.length → ∃ g o, ad = ⟨g, o, none⟩ ∧ ∀ i, i < ls.length → W.rangeAt g (o + i * 32) (enc8 (ls[i]?.getD []))))
theorem HS.all {W : World} {v : Value} {ls : List (List UInt8)} (h : HS W v ls) : ∀ x ∈ ls, x.length = 32 := h.1
theorem HS.form {W : World} {v : Value} {ls : List (List UInt8)} (h : HS W v ls) :
    ∃ A c, v = .slice A ls.length c ∧ (ls.length ≤ c ∧ c ≤ 9223372036854775807) ∧ (0 < ls.length → ∃ g o, A = some ⟨g, o, none⟩ ∧ ∀ i, i < ls.length → W.rangeAt g (o + i * 32) (enc8 (ls[i]?.getD []))) := by
  rcases h.2 with ⟨rfl, rfl⟩ | ⟨ad, c, rfl, h1, h3⟩
  · exact ⟨none, 0, rfl, by simp, fun h => by simp at h⟩
  · exact ⟨some ad, c, rfl, h1, fun h => by obtain ⟨g, o, rfl, hc⟩ := h3 h; exact ⟨g, o, rfl, hc⟩⟩
theorem HS.below {W W' : World} {v : Value} {ls : List (List UInt8)} (h : HS W v ls) (hb : Below W.heap.size W W') : HS W' v ls := by
  refine ⟨h.1, ?_⟩
  rcases h.2 with ⟨rfl, rfl⟩ | ⟨ad, c, rfl, h1, h3⟩
  · exact .inl ⟨rfl, rfl⟩
  · refine .inr ⟨ad, c, rfl, h1, fun h => ?_⟩
    obtain ⟨g, o, rfl, hc⟩ := h3 h
    exact ⟨g, o, rfl, fun i hi => rangeAt_below (hc i hi) hb⟩
theorem HS_nil (w : World) : HS w (.slice none 0 0) [] := ⟨by simp, .inl ⟨rfl, rfl⟩⟩

def cutS (A : Option Addr) (c lo : Nat) : Option Addr := if c = lo then A else A.map (·.add (lo * 32))
theorem sizeS (w : World) : (sizeOf 24).run Try.prog w = .ok 32 w := by kernel_rfl
theorem elemS : Try.prog.elem 29 = 24 := by kernel_rfl
theorem sums_run1 (A : Option Addr) (n c lo : Nat) (h1 : lo ≤ n) (i : Int) (ei : i = lo) (m d : Nat) (em : m = n - lo) (ed : d = c - lo) (w : World) :
    (Instr.slice 29 (.slice A n c) (some (.int .i64 i)) none none).run Try.prog w = .ok (.slice (cutS A c lo) m d) w := by
  subst ei em ed
  rw [run_slice_l w 29 A n c (by rw [elemS]; exact Try.underlying29) .i64 lo (by omega) (by omega), elemS, sizeS]
  simp [Result.andThen, sliced, cutS]
theorem sums_runh (A : Option Addr) (n c hi : Nat) (h2 : hi ≤ c) (j : Int) (ej : j = hi) (w : World) :
    (Instr.slice 29 (.slice A n c) none (some (.int .i64 j)) none).run Try.prog w = .ok (.slice A hi c) w := by
  subst ej
  rw [run_slice_h w 29 A n c (by rw [elemS]; exact Try.underlying29) .i64 hi (by omega) (by omega), elemS, sizeS]
  cases A with
  | none => simp [Result.andThen, sliced]
  | some a =>
    have : a.add 0 = a := by unfold Addr.add; simp
    simp [Result.andThen, sliced, this]
theorem HS.take {W : World} {A : Option Addr} {n c : Nat} {ls : List (List UInt8)} (h : HS W (.slice A n c) ls) (m : Nat) (hm : m ≤ ls.length) : HS W (.slice A m c) (ls.take m) := by
  have hml : (ls.take m).length = m := by simp; omega
  refine ⟨fun x hx => h.1 x (List.mem_of_mem_take hx), ?_⟩
  rcases h.2 with ⟨he, rfl⟩ | ⟨ad, c', he, h1, h3⟩
  · cases he
    obtain rfl : m = 0 := by simpa using hm
    exact .inl ⟨rfl, by simp⟩
  · cases he
    refine .inr ⟨ad, c, by rw [hml], by omega, fun h0 => ?_⟩
    obtain ⟨g, o, rfl, hc⟩ := h3 (by omega)
    exact ⟨g, o, rfl, fun i hi => by rw [List.getElem?_take_of_lt (by omega)]; exact hc i (by omega)⟩
theorem HS.drop {W : World} {A : Option Addr} {n c : Nat} {ls : List (List UInt8)} (h : HS W (.slice A n c) ls) (lo m d : Nat) (h1 : lo ≤ ls.length) (em : m = ls.length - lo) (ed : d = c - lo) : HS W (.slice (cutS A c lo) m d) (ls.drop lo) := by
  subst ed em
  have hml : (ls.drop lo).length = ls.length - lo := by simp
  refine ⟨fun x hx => h.1 x (List.mem_of_mem_drop hx), ?_⟩
  rcases h.2 with ⟨he, rfl⟩ | ⟨ad, c', he, h1', h3⟩
  · cases he
    exact .inl ⟨by simp [cutS], by simp⟩
  · cases he
    by_cases hc : c = lo
    · have : ls.length - lo = 0 := by omega
      refine .inr ⟨ad, c - lo, by simp [cutS, hc], by simp; omega, fun h0 => by omega⟩
    · refine .inr ⟨ad.add (lo * 32), c - lo, by rw [hml]; simp [cutS, hc], by omega, fun h0 => ?_⟩
      obtain ⟨g, o, rfl, hcell⟩ := h3 (by omega)
      refine ⟨g, o + lo * 32, by unfold Addr.add; split <;> simp_all, fun i hi => ?_⟩
      have := hcell (lo + i) (by omega)
      rw [List.getElem?_drop, show o + lo * 32 + i * 32 = o + (lo + i) * 32 by rw [Nat.add_mul]; omega]
      exact this
theorem HS.at_ {W : World} {A : Option Addr} {n c : Nat} {ls : List (List UInt8)} (h : HS W (.slice A n c) ls) (i : Nat) (hi : i < ls.length) (x : List UInt8) (hx : ls[i]? = some x) :
    x.length = 32 ∧ n = ls.length ∧ ∃ g o, A = some ⟨g, o, none⟩ ∧ W.rangeAt g (o + i * 32) (enc8 x) := by
  refine ⟨h.1 x (List.mem_of_getElem? hx), ?_⟩
  rcases h.2 with ⟨_, rfl⟩ | ⟨ad, c', he, h1, h3⟩
  · simp at hi
  · cases he
    obtain ⟨g, o, rfl, hc⟩ := h3 (by omega)
    have := hc i hi
    rw [hx] at this
    exact ⟨rfl, g, o, rfl, this⟩

/-! cells that are there -/
theorem there_below {w w' : World} {b o n : Nat} (h : w.there b o n) (hb : Below w.heap.size w w') : w'.there b o n := fun j hj => by
  obtain ⟨h1, h2⟩ := h j hj
  obtain ⟨u, hu⟩ := Option.isSome_iff_exists.1 h1
  have hlt := World.block_lt_of_cell? w _ hu
  refine ⟨by rw [hb.cell hlt]; exact h1, ?_⟩
  have hk := hb.block b hlt
  unfold World.frozen? at h2 ⊢
  rw [hk]; exact h2
theorem Row.there {w : World} {b : Nat} {t : TypeId} {l : List Value} (h : Row w b t l) (n : Nat) (hn : n = l.length) : w.there b 0 n := fun j hj => by
  rw [Nat.zero_add, h.cell j, h.frozen j, List.getElem?_eq_getElem (by omega)]
  exact ⟨rfl, rfl⟩
theorem below_setCells {n : Nat} {w : World} (b : Nat) : ∀ (vs : List Value) (o : Nat) (W : World), Below n w W → n ≤ b → Below n w (W.setCells b o vs)
  | [], _, _, h, _ => h
  | v :: r, o, W, h, hb => by
    rw [World.setCells]
    exact below_setCells b r (o + 1) _ (below_setCell h ⟨b, o, none⟩ hb v) hb
theorem range_result {w : World} {fn : Func} {p : Tmp} {ty : TypeId} {g : Nat} {l : List Value} (hr : w.rangeAt g 0 l) (h : fn.results = #[.cell p ty]) (tmps : Array Value) (n : Nat) (e : TypeId)
    (hp : tmps.getD p undef = .pointer (some ⟨g, 0, none⟩)) (hu : Try.prog.underlying ty = some (.array n e)) (hi : (Try.prog.info? ty).map (·.size) = some l.length) :
    (results fn tmps).run Try.prog w = .ok (.agg l.toArray) w := by
  have hp' : tmps[p]?.getD undef = .pointer (some ⟨g, 0, none⟩) := by simpa using hp
  simp [results, h, hp', asAddr, run_loadVar_mid w g 0 ty l _ hr hu rfl hi]
theorem enc8_one' (l : List UInt8) : ∀ v ∈ enc8 l, v.oneCell' = true := enc8_one l
theorem info32 (l : List UInt8) (h : l.length = 32) : (Try.prog.info? 24).map (·.size) = some (enc8 l).length := by rw [enc8_len, h]; kernel_rfl
/-- a new array's variable -/
theorem new_there (w : World) : (w.alloc (.cells #[.int .u8 0, .int .u8 0, .int .u8 0, .int .u8 0, .int .u8 0, .int .u8 0, .int .u8 0, .int .u8 0, .int .u8 0, .int .u8 0, .int .u8 0, .int .u8 0, .int .u8 0, .int .u8 0, .int .u8 0, .int .u8 0, .int .u8 0, .int .u8 0, .int .u8 0, .int .u8 0, .int .u8 0, .int .u8 0, .int .u8 0, .int .u8 0, .int .u8 0, .int .u8 0, .int .u8 0, .int .u8 0, .int .u8 0, .int .u8 0, .int .u8 0, .int .u8 0] 24)).there w.heap.size 0 32 := (Row.new w #[.int .u8 0, .int .u8 0, .int .u8 0, .int .u8 0, .int .u8 0, .int .u8 0, .int .u8 0, .int .u8 0, .int .u8 0, .int .u8 0, .int .u8 0, .int .u8 0, .int .u8 0, .int .u8 0, .int .u8 0, .int .u8 0, .int .u8 0, .int .u8 0, .int .u8 0, .int .u8 0, .int .u8 0, .int .u8 0, .int .u8 0, .int .u8 0, .int .u8 0, .int .u8 0, .int .u8 0, .int .u8 0, .int .u8 0, .int .u8 0, .int .u8 0, .int .u8 0] 24).there 32 rfl

/-- an array of 32 bytes as a slice of bytes -/
theorem SB_row {w : World} {b : Nat} {l : List UInt8} (h : Row w b 24 (enc8 l)) (hl : l.length = 32) : SB w (.slice (some ⟨b, 0, none⟩) 32 32) l := by
  refine .inr ⟨_, 32, by rw [hl], by omega, by omega, fun _ => ⟨b, 0, rfl, fun i hi => ?_⟩⟩
  rw [Nat.zero_add, h.cell i]; exact enc8_get l i hi
theorem SS_below {W W' : World} {v : Value} {ls : List (List UInt8)} (h : SS W v ls) (hb : Below W.heap.size W W') : SS W' v ls := by
  rcases h with ⟨rfl, rfl⟩ | ⟨ad, c, rfl, h1, h3⟩
  · exact .inl ⟨rfl, rfl⟩
  · refine .inr ⟨ad, c, rfl, h1, fun h => ?_⟩
    obtain ⟨g, o, rfl, hc⟩ := h3 h
    refine ⟨g, o, rfl, fun i hi => ?_⟩
    obtain ⟨u, hu, hs⟩ := hc i hi
    exact ⟨u, (hb.cell (World.block_lt_of_cell? W _ hu)).trans hu, hs.below hb⟩
/-- a list of slices of bytes, new -/
theorem SS_new (w : World) (vs : List Value) (ls : List (List UInt8)) (t : TypeId) (hl : vs.length = ls.length) (hm : ls.length ≤ 1000) (h : ∀ (i : Nat) (v : Value) (l : List UInt8), vs[i]? = some v → ls[i]? = some l → SB w v l) :
    SS (w.alloc (.cells vs.toArray t)) (.slice (some ⟨w.heap.size, 0, none⟩) ls.length ls.length) ls := by
  refine .inr ⟨_, ls.length, rfl, by omega, fun _ => ⟨w.heap.size, 0, rfl, fun i hi => ?_⟩⟩
  refine ⟨vs[i]'(by omega), ?_, ?_⟩
  · rw [(Row.new w vs.toArray t).cell (0 + i), Nat.zero_add]; exact List.getElem?_eq_getElem _
  · rw [List.getElem?_eq_getElem hi]
    exact (h i _ _ (List.getElem?_eq_getElem _) (List.getElem?_eq_getElem hi)).below ((Below.refl _ w).alloc (Nat.le_refl _) _)

theorem Row.belowS {W W' : World} {b : Nat} {t : TypeId} {l : List Value} (hb : Below W.heap.size W W') (h : Row W b t l) : Row W' b t l := h.below' hb (Nat.le_refl _)
theorem Row.setCells {b g : Nat} {t : TypeId} {l : List Value} : ∀ {w : World}, Row w b t l → ∀ (vs : List Value) (o : Nat), b ≠ g → Row (w.setCells g o vs) b t l
  | _, h, [], _, _ => h
  | w, h, v :: r, o, hne => by
    rw [World.setCells]
    exact Row.setCells (h.other ⟨g, o, none⟩ v hne) r (o + 1) hne
/-- nothing below A has turned -/
structure Mine (A : Nat) (a w : World) : Prop where
  le : A ≤ w.heap.size
  bel : Below A a w
theorem Mine.call {A : Nat} {a w w' : World} (hb : Below w.heap.size w w') (h : Mine A a w) : Mine A a w' := ⟨Nat.le_trans h.le hb.size, h.bel.trans (hb.mono h.le)⟩
theorem Mine.alloc {A : Nat} {a w : World} (h : Mine A a w) (o : Obj) : Mine A a (w.alloc o) := ⟨by show A ≤ (w.heap.push o).size; have := h.le; simp; omega, h.bel.alloc h.le o⟩
theorem Mine.setCells {A : Nat} {a w : World} (h : Mine A a w) (b o : Nat) (vs : List Value) (hb : A ≤ b) : Mine A a (w.setCells b o vs) :=
  ⟨Nat.le_trans h.le (below_setCells b vs o w (Below.refl A w) hb).size, below_setCells b vs o w h.bel hb⟩
theorem HS.alloc {W : World} {v : Value} {ls : List (List UInt8)} (h : HS W v ls) (o : Obj) : HS (W.alloc o) v ls := h.below ((Below.refl _ W).alloc (Nat.le_refl _) o)

theorem Mine.callN {A n : Nat} {a w w' : World} (hb : Below n w w') (h : Mine A a w) (hn : A ≤ n) : Mine A a w' := ⟨Nat.le_trans h.le hb.size, h.bel.trans (hb.mono hn)⟩
theorem Row.belowN {W W' : World} {b n : Nat} {t : TypeId} {l : List Value} (hb : Below n W W') (h : Row W b t l) (hn : b < n) : Row W' b t l := h.below hb hn
theorem there_belowN {w w' : World} {b o m n : Nat} (hb : Below n w w') (h : w.there b o m) (hn : b < n) : w'.there b o m := fun j hj => by
  obtain ⟨h1, h2⟩ := h j hj
  have hk := hb.block b hn
  unfold World.frozen? at h2 ⊢
  unfold World.cell? at h1 ⊢
  rw [hk]; exact ⟨h1, h2⟩

/-! ## Sums of one's own, appended -/
/-- sums as cells -/
def encS (ls : List (List UInt8)) : List Value := ls.flatMap enc8
theorem encS_len (ls : List (List UInt8)) (h : ∀ x ∈ ls, x.length = 32) : (encS ls).length = ls.length * 32 := by
  induction ls with
  | nil => rfl
  | cons x r ih => 
    have := ih (fun y hy => h y (List.mem_cons_of_mem _ hy))
    have hx := h x (by simp)
    simp only [encS, List.flatMap_cons, List.length_append, enc8_len, hx, List.length_cons] at *
    omega
theorem encS_append (a b : List (List UInt8)) : encS (a ++ b) = encS a ++ encS b := by simp [encS]
theorem encS_get : ∀ (ls : List (List UInt8)), (∀ x ∈ ls, x.length = 32) → ∀ i j x, ls[i]? = some x → j < 32 → (encS ls)[i * 32 + j]? = (enc8 x)[j]?
  | [], _, i, j, x, hx, _ => by simp at hx
  | y :: r, h, i, j, x, hx, hj => by
    have hy : (enc8 y).length = 32 := by rw [enc8_len]; exact h y (by simp)
    have e : encS (y :: r) = enc8 y ++ encS r := by simp [encS]
    rw [e]
    cases i with
    | zero =>
      simp at hx
      subst hx
      rw [Nat.zero_mul, Nat.zero_add, List.getElem?_append_left (by omega)]
    | succ i =>
      rw [List.getElem?_append_right (by rw [hy, Nat.add_mul]; omega), hy, show (i + 1) * 32 + j - 32 = i * 32 + j by rw [Nat.add_mul]; omega]
      exact encS_get r (fun z hz => h z (List.mem_cons_of_mem _ hz)) i j x (by simpa using hx) hj
/-- A SLICE OF THE CALL's OWN THAT HOLDS THESE SUMS -/
def OHS (W : World) (base : Nat) (v : Value) (ls : List (List UInt8)) : Prop := (∀ x ∈ ls, x.length = 32) ∧ W.ownsRow base 24 32 v ls.length (encS ls)
theorem OHS_nil (W : World) (base : Nat) : OHS W base (.slice none 0 0) [] := ⟨by simp, World.ownsRow_nil _ _ _ _⟩
theorem OHS.reads {W : World} {base : Nat} {v : Value} {ls : List (List UInt8)} (h : OHS W base v ls) : HS W v ls := by
  obtain ⟨h32, hl, h⟩ := h
  refine ⟨h32, ?_⟩
  rcases h with ⟨rfl, h0⟩ | ⟨g, cap, cur, rfl, hb, hg, hc, hm, hs, ht⟩
  · exact .inl ⟨rfl, List.length_eq_zero_iff.1 h0⟩
  · refine .inr ⟨_, cap, rfl, ⟨hc, by unfold maxLen at hm; omega⟩, fun h0 => ⟨g, 0, rfl, fun i hi => ?_⟩⟩
    intro j v hj
    have hx : ls[i]? = some (ls[i]'hi) := List.getElem?_eq_getElem hi
    rw [hx] at hj
    simp only [Option.getD_some] at hj
    have hj32 : j < 32 := by
      have := (List.getElem?_eq_some_iff.1 hj).1
      rw [enc8_len, h32 _ (List.getElem_mem hi)] at this
      exact this
    have e := encS_get ls h32 i j _ hx hj32
    rw [hj, ← ht, List.getElem?_take_of_lt (by have : (i + 1) * 32 ≤ ls.length * 32 := Nat.mul_le_mul_right 32 hi; rw [Nat.add_mul] at this; omega)] at e
    simp only [World.cell?, hg, Nat.zero_add]
    simpa using e
theorem OHS.mono {W : World} {B B' : Nat} {v : Value} {l : List (List UInt8)} (h : OHS W B v l) (hb : B' ≤ B) : OHS W B' v l := by
  obtain ⟨h0, h1, h2⟩ := h
  refine ⟨h0, h1, ?_⟩
  rcases h2 with h | ⟨g, cap, cur, e, hg, r⟩
  · exact .inl h
  · exact .inr ⟨g, cap, cur, e, by omega, r⟩
theorem OHS.below {W W' : World} {B : Nat} {v : Value} {l : List (List UInt8)} (h : OHS W B v l) (hb : Below W.heap.size W W') : OHS W' B v l :=
  ⟨h.1, h.2.kept (row := none) ⟨hb.os, hb.tape, hb.output, hb.size, fun k hk _ => hb.block k hk⟩ (by cases v.ownBlock <;> simp)⟩
theorem infoS : (Try.prog.info? 24).map (fun i => (i.zero, i.size, i.bytes)) = some (some (.agg #[.int .u8 0, .int .u8 0, .int .u8 0, .int .u8 0, .int .u8 0, .int .u8 0, .int .u8 0, .int .u8 0, .int .u8 0, .int .u8 0, .int .u8 0, .int .u8 0, .int .u8 0, .int .u8 0, .int .u8 0, .int .u8 0, .int .u8 0, .int .u8 0, .int .u8 0, .int .u8 0, .int .u8 0, .int .u8 0, .int .u8 0, .int .u8 0, .int .u8 0, .int .u8 0, .int .u8 0, .int .u8 0, .int .u8 0, .int .u8 0, .int .u8 0, .int .u8 0]), 32, 32) := by kernel_rfl
/-- append(own, one sum) -/
theorem runS_append {w : World} (ty : TypeId) (base : Nat) (v : Value) (ls : List (List UInt8)) (a : Addr) (c : Nat) (x : List UInt8) (hown : OHS w base v ls) (hx : x.length = 32) (hm : ∀ j u, (enc8 x)[j]? = some u → w.cell? (a.add j) = some u) (hlen : ls.length + 1 ≤ 1000000) (hbase : base ≤ w.heap.size) :
    ∃ v' w', (Builtin.append_ #[29, 29] ty #[v, .slice (some a) 1 c]).run Try.prog w = .ok v' w' ∧ OHS w' base v' (ls ++ [x]) ∧ w.grownBy w' v.ownBlock ∧ Below base w w' := by
  obtain ⟨i0, hi, hz0, hz1, hz2⟩ := info_parts infoS
  obtain ⟨v', w', hr, hown', hgrow, _⟩ := run_append_own (P := Try.prog) w base 29 ty 24 i0 (.agg #[.int .u8 0, .int .u8 0, .int .u8 0, .int .u8 0, .int .u8 0, .int .u8 0, .int .u8 0, .int .u8 0, .int .u8 0, .int .u8 0, .int .u8 0, .int .u8 0, .int .u8 0, .int .u8 0, .int .u8 0, .int .u8 0, .int .u8 0, .int .u8 0, .int .u8 0, .int .u8 0, .int .u8 0, .int .u8 0, .int .u8 0, .int .u8 0, .int .u8 0, .int .u8 0, .int .u8 0, .int .u8 0, .int .u8 0, .int .u8 0, .int .u8 0, .int .u8 0]) 32 32 Try.underlying29 hi hz0 hz1 hz2 rfl (by decide) v ls.length (encS ls) hown.2 a 1 c (enc8 x) (by rw [enc8_len, hx]) hm (enc8_one x) (by unfold maxLen; omega) (by omega) hbase
  refine ⟨v', w', hr, ⟨?_, ?_⟩, hgrow, (Below.refl base w).grown hgrow hbase (fun k hk => (hown.2.lt k hk).1)⟩
  · intro y hy
    rcases List.mem_append.1 hy with h | h
    · exact hown.1 y h
    · rw [List.mem_singleton.1 h]; exact hx
  · rw [encS_append, List.length_append, show encS [x] = enc8 x by simp [encS]]
    exact hown'
end Go.Proofs.Ytkipnhhdlohnfaa

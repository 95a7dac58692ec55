/- The reference's Proof; slices.Reverse of sums. -/
import Derived.RangeFuncNested
import Derived.RangeFuncBound
import Derived.RangeFuncCalls
import Derived.RangeFuncLeaves
import Derived.Shelf.Abstract
import Derived.Shelf.RegionOpen
import Derived.WalkKit
import Derived.OwnWalkIn
import Derived.TacticsInMore
import Derived.LoopNIn
import Derived.LoopIn
import Derived.Outline
import Derived.Lib.Hide
import Derived.Lib.SliceRun
import Derived.IntWalk
import Derived.WalkLawsBesides
import Derived.WalkSpells
import Derived.Laws.BitsAllLaws
import Derived.Lib.ConvBytes
import Derived.Maps.AppendAt
import Derived.Lib.AppendStr
import Derived.Lib.SlBytesConst
import Derived.Laws.AppendOwnNone
import Derived.Laws.OwnMore
import Derived.Laws.BytesArg
import Derived.Deep.RegionHeld3
import Derived.BigQuiet
import Derived.Deep.RegionLaw
import Derived.Deep.QuietTactic
import Derived.Lib.OthersKept
import Derived.Test.YtkipnhhdlohnfaaProg
import Derived.Deep.DeepFit
import Derived.Test.YtkipnhhdlohnfaaMkE
set_option linter.unusedVariables false
set_option linter.unusedSimpArgs false
namespace Go.Proofs.Ytkipnhhdlohnfaa
open Go Go.RowKit Go.Shelf

/-- the proof of a leaf, and the error's number -/
def proofW (ls : List (List UInt8)) (i : Int) : List (List UInt8) := if 0 ≤ i ∧ i < ls.length then wayL ls i.toNat else []
def proofE (ls : List (List UInt8)) (i : Int) : Int := if 0 ≤ i ∧ i < ls.length then 0 else 1
set_option maxRecDepth 100000 in
/-- **the reference's Proof** -/
theorem qproof_any (v : Value) (ls : List (List UInt8)) (i : Int) (w : World) (hv : HS w v ls) (hmax : ls.length ≤ 1000) :
    Calls Try.prog 27 #[v, .int .i64 i] w fun e w' => ∃ u, e = .returned (.tuple #[u, .int .i64 (proofE ls i)]) ∧ OHS w' w.heap.size u (proofW ls i) ∧ Below w.heap.size w w' := by
  obtain ⟨C, c, rfl, -⟩ := hv.form
  by_cases h0 : 0 ≤ i
  · by_cases h1 : i < ls.length
    · obtain ⟨j, rfl⟩ : ∃ j : Nat, i = j := ⟨i.toNat, by omega⟩
      have hq := fun w' hb => qway_any (ls.length + 1) (.slice C ls.length c) ls j w' (by omega) hmax (by omega) (hv.below (W' := w') hb)
      unfold proofW proofE
      rw [if_pos ⟨h0, h1⟩, if_pos ⟨h0, h1⟩, Int.toNat_natCast]
      obtain ⟨n, hn⟩ : ∃ n, ls.length = n := ⟨_, rfl⟩
      rw [hn] at hq h1 ⊢
      have hjn : j < n := by omega
      have HQ := Lib.hid hq
      clear hv hq hmax hn
      go_enter Try.func27, Try.ntmps27
      go_wp2_with fail
      refine (HQ.out _ (Below.refl _ _)).mono ?_
      rintro e w1 ⟨u, rfl, ho, hb⟩
      have HO := Lib.hid ho
      have HB := Lib.hid hb
      clear ho hb
      go_wp2
      go_ret2
      exact ⟨u, rfl, HO.out, HB.out⟩
    · unfold proofW proofE
      rw [if_neg (by omega), if_neg (by omega)]
      obtain ⟨n, hn⟩ : ∃ n, ls.length = n := ⟨_, rfl⟩
      rw [hn] at h1 ⊢
      clear hv hmax hn
      go_enter Try.func27, Try.ntmps27
      go_wp2
      go_ret2
      exact ⟨_, rfl, OHS_nil _ _, Below.refl _ _⟩
  · unfold proofW proofE
    rw [if_neg (by omega), if_neg (by omega)]
    obtain ⟨n, hn⟩ : ∃ n, ls.length = n := ⟨_, rfl⟩
    rw [hn]
    clear hv hmax hn
    go_enter Try.func27, Try.ntmps27
    go_wp2
    go_ret2
    exact ⟨_, rfl, OHS_nil _ _, Below.refl _ _⟩

/-! ## One sum of a slice of the call's own, written -/
theorem setCells_heap (g : Nat) (e : TypeId) : ∀ (vs : List Value) (o : Nat) (W : World) (cur : Array Value), W.heap[g]? = some (.cells cur e (0, 0)) → o + vs.length ≤ cur.size →
    ∃ cur' : Array Value, (W.setCells g o vs).heap[g]? = some (.cells cur' e (0, 0)) ∧ cur'.size = cur.size ∧ ∀ k, cur'[k]? = if o ≤ k ∧ k < o + vs.length then vs[k - o]? else cur[k]?
  | [], o, W, cur, h, _ => ⟨cur, h, rfl, fun k => by rw [if_neg (by simp)]⟩
  | v :: r, o, W, cur, h, hl => by
    rw [World.setCells]
    have hl' : o + (r.length + 1) ≤ cur.size := by simpa using hl
    have h1 : (W.setCell ⟨g, o, none⟩ v).heap[g]? = some (.cells (cur.setIfInBounds o v) e (0, 0)) := heap_setCell_same W g o cur e v h
    obtain ⟨cur', h2, h3, h4⟩ := setCells_heap g e r (o + 1) _ _ h1 (by simp; omega)
    refine ⟨cur', h2, by rw [h3]; simp, fun k => ?_⟩
    rw [h4 k]
    by_cases hk : o + 1 ≤ k ∧ k < o + 1 + r.length
    · rw [if_pos hk, if_pos (by simp; omega), show k - o = (k - (o + 1)) + 1 by omega, List.getElem?_cons_succ]
    · rw [if_neg hk]
      by_cases hko : k = o
      · subst hko
        rw [if_pos (by simp), Nat.sub_self, Array.getElem?_setIfInBounds_self_of_lt (by omega)]
        simp
      · rw [if_neg (by simp; omega), Array.getElem?_setIfInBounds_ne (by omega)]
theorem setCells_other (g b : Nat) (hne : b ≠ g) : ∀ (vs : List Value) (o : Nat) (W : World), (W.setCells g o vs).heap[b]? = W.heap[b]?
  | [], _, _ => rfl
  | v :: r, o, W => by
    rw [World.setCells, setCells_other g b hne r (o + 1), heap_setCell_other W ⟨g, o, none⟩ b v hne]
theorem encS_set : ∀ (ls : List (List UInt8)) (i : Nat) (x : List UInt8), (∀ y ∈ ls, y.length = 32) → x.length = 32 → i < ls.length → ∀ k, (encS (ls.set i x))[k]? = if i * 32 ≤ k ∧ k < i * 32 + 32 then (enc8 x)[k - i * 32]? else (encS ls)[k]? := by
  intro ls i x h hx hi k
  have h' : ∀ y ∈ ls.set i x, y.length = 32 := by
    intro y hy
    rcases List.mem_or_eq_of_mem_set hy with hy | rfl
    · exact h y hy
    · exact hx
  by_cases hk : k < ls.length * 32
  · have hd : k = (k / 32) * 32 + k % 32 := by omega
    have hq : k / 32 < ls.length := by omega
    have hr : k % 32 < 32 := by omega
    by_cases e : k / 32 = i
    · rw [if_pos (by omega)]
      conv => lhs; rw [hd]
      rw [encS_get (ls.set i x) h' (k / 32) (k % 32) x (by rw [e]; simp [hi]) hr]
      congr 1; omega
    · rw [if_neg (by omega)]
      have hx2 : ls[k / 32]? = some ls[k / 32] := List.getElem?_eq_getElem hq
      conv => lhs; rw [hd]
      conv => rhs; rw [hd]
      rw [encS_get (ls.set i x) h' (k / 32) (k % 32) _ (by rw [List.getElem?_set_ne (by omega)]; exact hx2) hr, encS_get ls h (k / 32) (k % 32) _ hx2 hr]
  · rw [List.getElem?_eq_none (by rw [encS_len _ h', List.length_set]; omega), if_neg (by omega), List.getElem?_eq_none (by rw [encS_len _ h]; omega)]
theorem OHS.form {W : World} {B : Nat} {v : Value} {ls : List (List UInt8)} (h : OHS W B v ls) (h0 : 0 < ls.length) : ∃ g c, v = .slice (some ⟨g, 0, none⟩) ls.length c ∧ B ≤ g ∧ W.there g 0 (ls.length * 32) ∧ g < W.heap.size := by
  obtain ⟨h32, hl, h⟩ := h
  rcases h with ⟨rfl, h0'⟩ | ⟨g, cap, cur, rfl, hb, hg, hc, hm, hs, ht⟩
  · omega
  · refine ⟨g, cap, rfl, hb, fun j hj => ?_, (Array.getElem?_eq_some_iff.1 hg).1⟩
    have hj' : j < cur.size := by
      have : ls.length * 32 ≤ cap * 32 := Nat.mul_le_mul_right 32 hc
      omega
    rw [Nat.zero_add]
    refine ⟨?_, ?_⟩
    · simp only [World.cell?, hg]; simp [hj']
    · exact frozen_of_row W g j cur 24 hg
theorem OHS.set {W : World} {B : Nat} {g n c : Nat} {ls : List (List UInt8)} (h : OHS W B (.slice (some ⟨g, 0, none⟩) n c) ls) (i : Nat) (hi : i < ls.length) (x : List UInt8) (hx : x.length = 32) :
    OHS (W.setCells g (i * 32) (enc8 x)) B (.slice (some ⟨g, 0, none⟩) n c) (ls.set i x) := by
  obtain ⟨h32, hl, h⟩ := h
  have h32' : ∀ y ∈ ls.set i x, y.length = 32 := by
    intro y hy
    rcases List.mem_or_eq_of_mem_set hy with hy | rfl
    · exact h32 y hy
    · exact hx
  refine ⟨h32', by rw [encS_len _ h32'], ?_⟩
  rcases h with ⟨he, _⟩ | ⟨g', cap, cur, he, hb, hg, hc, hm, hs, ht⟩
  · cases he
  · cases he
    have hi32 : (i + 1) * 32 ≤ ls.length * 32 := Nat.mul_le_mul_right 32 hi
    have hc32 : ls.length * 32 ≤ c * 32 := Nat.mul_le_mul_right 32 hc
    obtain ⟨cur', h1, h2, h3⟩ := setCells_heap g 24 (enc8 x) (i * 32) W cur hg (by rw [enc8_len, hx]; omega)
    refine .inr ⟨g, c, cur', by rw [List.length_set], hb, h1, by rw [List.length_set]; exact hc, hm, by rw [h2, hs], ?_⟩
    rw [List.length_set]
    apply List.ext_getElem?
    intro k
    rw [encS_set ls i x h32 hx hi k]
    by_cases hk : k < ls.length * 32
    · rw [List.getElem?_take_of_lt hk, Array.getElem?_toList, h3 k, enc8_len, hx]
      split
      · rfl
      · have := congrArg (fun l => l[k]?) ht

        rw [List.getElem?_take_of_lt hk, Array.getElem?_toList] at this
        exact this
    · rw [List.getElem?_eq_none (by simp; omega), if_neg (by omega), List.getElem?_eq_none (by rw [encS_len _ h32]; omega)]
end Go.Proofs.Ytkipnhhdlohnfaa

/- The reference's All; lists of records held against one another; records written one behind the other. -/
import Derived.RangeFuncNested
import Derived.RangeFuncBound
import Derived.RangeFuncCalls
import Derived.RangeFuncLeaves
import Derived.Shelf.Abstract
import Derived.Shelf.RegionOpen
import Derived.WalkKit
import Derived.OwnWalkIn
import Derived.TacticsInMore
import Derived.LoopNIn
import Derived.LoopIn
import Derived.Outline
import Derived.Lib.Hide
import Derived.Lib.SliceRun
import Derived.IntWalk
import Derived.WalkLawsBesides
import Derived.WalkSpells
import Derived.Laws.BitsAllLaws
import Derived.Lib.ConvBytes
import Derived.Maps.AppendAt
import Derived.Lib.AppendStr
import Derived.Lib.SlBytesConst
import Derived.Laws.AppendOwnNone
import Derived.Laws.OwnMore
import Derived.Laws.BytesArg
import Derived.Deep.RegionHeld3
import Derived.BigQuiet
import Derived.Deep.RegionLaw
import Derived.Deep.QuietTactic
import Derived.Test.YtlgmocmekmppeaaProg
import Derived.Test.YtlgmocmekmppeaaFrK
set_option linter.unusedVariables false
set_option linter.unusedSimpArgs false
namespace Go.Proofs.Ytlgmocmekmppeaa
open Go Go.RowKit Go.Shelf

/-- A slice in memory that lay below n₀. -/
abbrev SBL (n₀ : Nat) (W : World) (v : Value) (l : List UInt8) : Prop := SBD n₀ (fun _ => True) W v l
theorem SBL.of_SB {w : World} {v : Value} {l : List UInt8} (h : SB w v l) : SBL w.heap.size w v l := by
  rcases h with h | ⟨ad, c, rfl, h1, h2, h3⟩
  · exact .inl h
  · refine .inr ⟨ad, c, rfl, h1, h2, fun h0 => ?_⟩
    obtain ⟨g, o, e, hc⟩ := h3 h0
    exact ⟨g, o, e, .inl (World.block_lt_of_cell? w _ (hc 0 h0)), hc⟩
theorem SBL.below {n₀ : Nat} {W W' : World} {v : Value} {l : List UInt8} (h : SBL n₀ W v l) (hb : Below n₀ W W') : SBL n₀ W' v l := by
  rcases h with h | ⟨ad, c, rfl, h1, h2, h3⟩
  · exact .inl h
  · refine .inr ⟨ad, c, rfl, h1, h2, fun h0 => ?_⟩
    obtain ⟨g, o, e, hg, hc⟩ := h3 h0
    have hg' : g < n₀ := hg.elim id (fun h => (h.1 trivial).elim)
    exact ⟨g, o, e, .inl hg', fun i hi => (hb.cell (p := ⟨g, o + i, none⟩) hg').trans (hc i hi)⟩
theorem SBD.cut {n₀ : Nat} {M : Nat → Prop} {W : World} {A : Option Addr} {n c : Nat} {l : List UInt8} (h : SBD n₀ M W (.slice A n c) l) (lo m d : Nat) (h1 : lo + m ≤ l.length) (ed : d = c - lo) : SBD n₀ M W (.slice (cutA A c lo) m d) ((l.drop lo).take m) := by
  subst ed
  have hml : ((l.drop lo).take m).length = m := by simp; omega
  rcases h with ⟨he, rfl⟩ | ⟨ad, c', he, h1', h2, h3⟩
  · cases he
    simp at h1
    obtain ⟨rfl, rfl⟩ := h1
    exact .inl ⟨by simp [cutA], by simp⟩
  · cases he
    by_cases hc : c = lo
    · have : m = 0 := by omega
      subst this
      refine .inr ⟨ad, c - lo, by simp [cutA, hc], by simp, by omega, fun h0 => by simp at h0⟩
    · refine .inr ⟨ad.add lo, c - lo, by rw [hml]; simp [cutA, hc], by omega, by omega, fun h0 => ?_⟩
      obtain ⟨g, o, rfl, hg, hcell⟩ := h3 (by omega)
      refine ⟨g, o + lo, by unfold Addr.add; split <;> simp_all, hg, fun i hi => ?_⟩
      rw [hml] at hi
      rw [Nat.add_assoc, hcell (lo + i) (by omega), gb_take _ _ _ hi, gb_drop]
theorem SBD.rest {n₀ : Nat} {M : Nat → Prop} {W : World} {A : Option Addr} {c : Nat} {l : List UInt8} (h : SBD n₀ M W (.slice A l.length c) l) (hb : nextB l = true) : SBD n₀ M W (.slice (cutA A c (8 + wordL l)) (l.length - (8 + wordL l)) (c - (8 + wordL l))) (nextR l) := by
  have h1 := nextB_fits hb
  have := h.cut (8 + wordL l) (l.length - (8 + wordL l)) _ (by omega) rfl
  rwa [List.take_of_length_le (by simp)] at this

/-- rows of bytes, each of its own -/
def CollO (W : World) (vs : List Value) (ls : List (List UInt8)) : Prop := vs.length = ls.length ∧ ∀ i, i < ls.length → ∃ u b0, vs[i]? = some u ∧ OB W b0 u (ls[i]?.getD [])
theorem OB.grown {W W' : World} {b0 base : Nat} {u v : Value} {l : List UInt8} {k : Nat} {xs : List Value} (h : OB W b0 u l) (hr : W.ownsRow base 22 1 v k xs) (hg : W.grownBy W' v.ownBlock) : OB W' b0 u l := by
  refine h.kept hg ?_
  rcases h.2 with ⟨rfl, _⟩ | ⟨g, cap, cur, rfl, hb, hh, _⟩
  · exact .inl rfl
  · refine .inr fun hk => ?_
    rcases hr.2 with ⟨rfl, _⟩ | ⟨g', cap', cur', rfl, _, hh', _⟩
    · simp [Value.ownBlock] at hk
    · obtain rfl : g = g' := by simpa [Value.ownBlock] using hk
      rw [hh] at hh'
      simp at hh'
theorem row_below {W W' : World} {base : Nat} {e : TypeId} {size : Nat} {v : Value} {k : Nat} {xs : List Value} (h : W.ownsRow base e size v k xs) (hb : Below W.heap.size W W') : W'.ownsRow base e size v k xs :=
  h.kept (row := none) ⟨hb.os, hb.tape, hb.output, hb.size, fun k hk _ => hb.block k hk⟩ (by cases v.ownBlock <;> simp)
theorem CollO.nil (W : World) : CollO W [] [] := ⟨rfl, fun i h => by simp at h⟩
theorem CollO.below {W W' : World} {vs : List Value} {ls : List (List UInt8)} (h : CollO W vs ls) (hb : Below W.heap.size W W') : CollO W' vs ls :=
  ⟨h.1, fun i hi => by obtain ⟨u, b0, hu, ho⟩ := h.2 i hi; exact ⟨u, b0, hu, ho.below hb⟩⟩
theorem CollO.grown {W W' : World} {base : Nat} {v : Value} {k : Nat} {xs vs : List Value} {ls : List (List UInt8)} (h : CollO W vs ls) (hr : W.ownsRow base 22 1 v k xs) (hg : W.grownBy W' v.ownBlock) : CollO W' vs ls :=
  ⟨h.1, fun i hi => by obtain ⟨u, b0, hu, ho⟩ := h.2 i hi; exact ⟨u, b0, hu, ho.grown hr hg⟩⟩
theorem CollO.snoc {W : World} {vs : List Value} {ls : List (List UInt8)} {u : Value} {l : List UInt8} {b0 : Nat} (h : CollO W vs ls) (hu : OB W b0 u l) : CollO W (vs ++ [u]) (ls ++ [l]) := by
  refine ⟨by simp [h.1], fun i hi => ?_⟩
  by_cases h' : i < ls.length
  · obtain ⟨x, b1, hx, hs⟩ := h.2 i h'
    exact ⟨x, b1, by rw [List.getElem?_append_left (by rw [h.1]; exact h')]; exact hx, by rw [List.getElem?_append_left h']; exact hs⟩
  · have : i = ls.length := by simp at hi; omega
    subst this
    exact ⟨u, b0, by rw [List.getElem?_append_right (by rw [h.1]; exact Nat.le_refl _), h.1]; simp, by simpa using hu⟩
theorem SS_of_rowO {W : World} {base : Nat} {v : Value} {vs : List Value} {ls : List (List UInt8)} (h : W.ownsRow base 22 1 v ls.length vs) (hc : CollO W vs ls) : SS W v ls := by
  obtain ⟨hl, h2⟩ := h
  rcases h2 with ⟨rfl, h0⟩ | ⟨g, cap, cur, rfl, hb, hg, hcap, hm, hs, ht⟩
  · have : ls = [] := List.length_eq_zero_iff.1 h0
    subst this
    exact .inl ⟨rfl, rfl⟩
  · refine .inr ⟨_, cap, rfl, ⟨hcap, by unfold maxLen at hm; omega⟩, fun _ => ⟨g, 0, rfl, fun i hi => ?_⟩⟩
    obtain ⟨u, b0, hu, hsb⟩ := hc.2 i hi
    refine ⟨u, ?_, hsb.reads⟩
    rw [← ht, Nat.mul_one, List.getElem?_take_of_lt hi] at hu
    simp only [World.cell?, hg, Nat.zero_add]
    simpa using hu

theorem allR_take {l : List UInt8} {k : Nat} {x : Nat × List UInt8} (hx : (recsAt l.length 0 l)[k]? = some x) : (allR l).take (k + 1) = (allR l).take k ++ [x.2] := by
  have hk : k < (allR l).length := by unfold allR; rw [List.length_map]; exact (List.getElem?_eq_some_iff.1 hx).1
  rw [List.take_succ_eq_append_getElem hk]
  have := congrArg (Option.map Prod.snd) hx
  rw [← List.getElem?_map] at this
  have h' : (allR l)[k]? = some x.2 := this
  rw [List.getElem?_eq_getElem hk] at h'
  rw [Option.some.inj h']

theorem ret_pair {v : Value} {a b : Int} (h : a = b) : Ending.returned (.tuple #[v, .int .i64 a]) = .returned (.tuple #[v, .int .i64 b]) := by rw [h]

set_option maxRecDepth 100000 in
set_option maxHeartbeats 2000000 in
/-- **the reference's All** -/
theorem rall_any (v : Value) (l : List UInt8) (w : World) (hlen : l.length ≤ 1000000) (h : SB w v l) :
    Calls Try.prog 24 #[v] w fun e w' => ∃ v', e = .returned (.tuple #[v', .int .i64 (allN l : Nat)]) ∧ SS w' v' (allR l) ∧ Below w.heap.size w w' := by
  obtain ⟨A, c, rfl, h1, h2, -⟩ := h.form
  obtain ⟨i0, hi, hz0, hz1, hz2⟩ := info_parts info22
  have Hs : Hid (SBL w.heap.size w (.slice A l.length c) l) := SBL.of_SB h
  clear h
  go_enter Try.func24, Try.ntmps24
  go_wp2
  go_loopw [4, 5] (fun out rest wr => ∃ (pos k : Nat) (vs : List Value) (A' : Option Addr) (c' : Nat), rest = .slice A' (l.length - pos) c' ∧ l.length - pos ≤ c' ∧ c' ≤ 9223372036854775807 ∧ pos ≤ l.length ∧ k ≤ (recsAt l.length 0 l).length ∧ Hid (usedAt l k = pos) ∧ Hid (SBL w.heap.size wr (.slice A' (l.length - pos) c') (l.drop pos)) ∧ Hid (EachLeft l k pos) ∧ wr.ownsRow w.heap.size 22 1 out k vs ∧ Hid (CollO wr vs ((allR l).take k)) ∧ Below w.heap.size w wr) (fun _ rest _ => match rest with | .slice _ n _ => n | _ => 0)
  case atStart => exact ⟨0, 0, [], A, c, rfl, by omega, h2, by omega, by omega, rfl, by simpa using Hs, EachLeft.start l, World.ownsRow_nil _ _ _ _, CollO.nil _, Below.refl _ _⟩
  case round =>
    obtain ⟨pos, k, vs, A', c', rfl, hc1, hc2, hpos, hk, hu, hsb, hleft, hrow, hcoll, hB⟩ := hrel
    have hsl : (l.drop pos).length = l.length - pos := by simp
    have hsb' : Hid (SB wr (.slice A' (l.drop pos).length c') (l.drop pos)) := by rw [hsl]; exact hsb.out.sb
    go_wp2_with fail
    rw [← hsl]
    refine (rnext_at A' c' (l.drop pos) _ (by omega) (by omega) hsb'.out).mono ?_
    rw [hsl]
    rintro e w1 ⟨v1, b0, rfl, hown, hB1⟩
    unfold restV
    cases hb : nextB (l.drop pos) with
    | false =>
      have hkk := hleft.out.none hb hk
      have hn : Hid (allN l = pos) := by unfold allN; rw [hkk]; exact hu
      simp only [Bool.false_eq_true, if_false, hsl]
      clear hb hown
      go_wp2
      go_ret2
      have hlen' : (recsAt l.length 0 l).length = (allR l).length := by simp [allR]
      have hc := hcoll.out.below hB1
      rw [hkk.symm, hlen', List.take_length] at hc
      rw [hkk.symm, hlen'] at hrow
      refine ⟨_, ret_pair (by rw [hn.out]; omega), SS_of_rowO (row_below hrow hB1) hc, hB.trans (hB1.mono hB.size)⟩
    | true =>
      obtain ⟨hget, hleft'⟩ := hleft.out.some hb
      have hfit := nextB_fits hb
      rw [hsl] at hfit
      have hkl : k < (recsAt l.length 0 l).length := (List.getElem?_eq_some_iff.1 hget).1
      have hrl := recsAt_len l.length 0 l
      have hB' := hB.trans (hB1.mono hB.size)
      have hrest := (hsb.out.below (hB1.mono hB.size))
      rw [← hsl] at hrest
      have hrest' := hrest.rest hb
      rw [hsl] at hrest'
      simp only [if_true, hsl]
      simp only [hb, if_true] at hown
      obtain ⟨n, hn⟩ : ∃ n, wordL (l.drop pos) = n := ⟨_, rfl⟩
      rw [hn] at hrest' hfit hget hleft' ⊢
      have hrow1 := row_below hrow hB1
      have hcoll1 := Lib.hid (hcoll.out.below hB1)
      have Hown := Lib.hid hown
      have Hget := Lib.hid hget
      have Hleft := Lib.hid hleft'
      have Hrest := Lib.hid hrest'
      have Hn := Lib.hid hn
      clear hn hget hleft' hrest' hown hrest hb hB1
      obtain ⟨A1, c1, hv1, -, -, -⟩ := Hown.out.reads.form
      subst hv1
      go_wp2_with (at_builtin; refine wpList_append_own _ rfl _ _ 35 rfl w.heap.size 22 i0 (.slice none 0 0) 1 24 Try.underlying35 hi hz0 hz1 hz2 rfl (by decide) _ _ _ rfl (hrow1.alloc _) ⟨w1.heap.size, 0, none⟩ 1 1 [.slice A1 _ c1] rfl rfl (cell_one_new _ _ _) (by simp [Value.oneCell']) (by unfold maxLen; omega) (by omega) (by have := hB'.size; simp; omega) ?_; intro v' w2 hown' hgrow _)
      have hB2 : Below w.heap.size w w2 := (hB'.alloc hB'.size _).grown hgrow (by have := hB'.size; simp; omega) (fun j hj => (hrow1.lt j hj).1)
      have hn1 : Below w1.heap.size w1 (w1.alloc (.cells #[.slice A1 (nextX (l.drop pos)).length c1] 22)) := (Below.refl _ _).alloc (Nat.le_refl _) _
      have hcoll2 := ((hcoll1.out.below hn1).grown (hrow1.alloc _) hgrow).snoc ((Hown.out.below hn1).grown (hrow1.alloc _) hgrow)
      have e1 := allR_take Hget.out
      have e2 : nextR (l.drop pos) = l.drop (pos + 8 + n) := by rw [nextR, Hn.out, List.drop_drop, Nat.add_assoc]
      have hB12 : Below w.heap.size w1 w2 := (((Below.refl _ _).mono (Nat.le_refl _)).alloc hB'.size _).grown hgrow (by have := hB'.size; simp; omega) (fun j hj => (hrow1.lt j hj).1)
      go_roundw
      case rel =>
        exact ⟨pos + 8 + n, k + 1, _, cutA A' c' (8 + n), c' - (8 + n), by rw [show l.length - pos - (8 + n) = l.length - (pos + 8 + n) by omega], by omega, by omega, by omega, hkl, by simp [Hid, usedAt, Hget.out], by rw [show l.length - (pos + 8 + n) = l.length - pos - (8 + n) by omega, ← e2]; exact SBL.below Hrest.out hB12, Hleft.out, hown', by rw [e1]; exact hcoll2, hB2⟩
      case measure => show l.length - pos - (8 + n) < l.length - pos; omega
end Go.Proofs.Ytlgmocmekmppeaa

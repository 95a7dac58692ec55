/- The reference's Lines. -/
import Derived.RangeFuncNested
import Derived.RangeFuncBound
import Derived.RangeFuncCalls
import Derived.RangeFuncLeaves
import Derived.Shelf.Abstract
import Derived.Shelf.RegionOpen
import Derived.WalkKit
import Derived.OwnWalkIn
import Derived.TacticsInMore
import Derived.LoopNIn
import Derived.LoopIn
import Derived.Outline
import Derived.Lib.Hide
import Derived.Lib.SliceRun
import Derived.IntWalk
import Derived.WalkLawsBesides
import Derived.WalkSpells
import Derived.Laws.BitsAllLaws
import Derived.Lib.ConvBytes
import Derived.Maps.AppendAt
import Derived.Lib.AppendStr
import Derived.Lib.SlBytesConst
import Derived.Laws.AppendOwnNone
import Derived.Laws.OwnMore
import Derived.Laws.BytesArg
import Derived.Deep.RegionHeld3
import Derived.BigQuiet
import Derived.Deep.RegionLaw
import Derived.Deep.QuietTactic
import Derived.Lib.OthersKept
import Derived.Test.YtlgodokgebjjaaaProg
import Derived.Deep.DeepFit
import Derived.Test.YtlgodokgebjjaaaDoE
set_option linter.unusedVariables false
set_option linter.unusedSimpArgs false
namespace Go.Proofs.Ytlgodokgebjjaaa
open Go Go.RowKit Go.Shelf

theorem gb_cons (x : UInt8) (l : List UInt8) (k : Nat) : gb (x :: l) (k + 1) = gb l k := by simp [gb]
theorem fl_at : ∀ (l : List UInt8) (k : Nat), (∀ j, j + 1 < k → ¬ (gb l j = 13 ∧ gb l (j + 1) = 10)) → k < l.length → 1 ≤ k → gb l (k - 1) = 13 → gb l k = 10 → fl l = some (l.take (k + 1), l.drop (k + 1))
  | [], k, _, h, _, _, _ => by simp at h
  | [_], k, _, h, h1, _, _ => by simp at h; omega
  | x :: y :: t, k, hn, h, h1, e1, e2 => by
    by_cases hk : k = 1
    · subst hk
      obtain rfl : x = 13 := UInt8.toNat_inj.1 (by simpa [gb] using e1)
      obtain rfl : y = 10 := UInt8.toNat_inj.1 (by simpa [gb] using e2)
      exact fl_hit t
    · have hm : ¬ (x = 13 ∧ y = 10) := fun hxy => hn 0 (by omega) (by rw [hxy.1, hxy.2]; exact ⟨rfl, rfl⟩)
      obtain ⟨k, rfl⟩ : ∃ j, k = j + 1 := ⟨k - 1, by omega⟩
      rw [fl_miss _ _ _ hm, fl_at (y :: t) k (fun j hj hh => hn (j + 1) (by omega) (by rw [gb_cons, gb_cons]; exact hh)) (by simpa using h) (by omega) (by
        have := e1
        rw [show k + 1 - 1 = k - 1 + 1 by omega, gb_cons] at this
        exact this) (by rw [gb_cons] at e2; exact e2)]
      rfl
theorem fl_no : ∀ (l : List UInt8), (∀ j, j + 1 < l.length → ¬ (gb l j = 13 ∧ gb l (j + 1) = 10)) → fl l = none
  | [], _ => rfl
  | [_], _ => rfl
  | x :: y :: t, hn => by
    have hm : ¬ (x = 13 ∧ y = 10) := fun hxy => hn 0 (by simp) (by rw [hxy.1, hxy.2]; exact ⟨rfl, rfl⟩)
    rw [fl_miss _ _ _ hm, fl_no (y :: t) (fun j hj hh => hn (j + 1) (by simpa using hj) (by rw [gb_cons, gb_cons]; exact hh))]
    rfl
theorem gb_drop' (l : List UInt8) (n k : Nat) : gb (l.drop n) k = gb l (n + k) := gb_drop l n k
/-- slices that read as these lines -/
def CollW (w : World) (vs : List Value) (ls : List (List UInt8)) : Prop := vs.length = ls.length ∧ ∀ i, i < ls.length → ∃ u, vs[i]? = some u ∧ SB w u (ls[i]?.getD [])
theorem CollW.nil (w : World) : CollW w [] [] := ⟨rfl, fun i h => by simp at h⟩
theorem CollW.snoc {W : World} {vs : List Value} {ls : List (List UInt8)} {u : Value} {l : List UInt8} (h : CollW W vs ls) (hu : SB W u l) : CollW W (vs ++ [u]) (ls ++ [l]) := by
  refine ⟨by simp [h.1], fun i hi => ?_⟩
  by_cases h' : i < ls.length
  · obtain ⟨x, hx, hs⟩ := h.2 i h'
    exact ⟨x, by rw [List.getElem?_append_left (by rw [h.1]; exact h')]; exact hx, by rw [List.getElem?_append_left h']; exact hs⟩
  · have : i = ls.length := by simp at hi; omega
    subst this
    exact ⟨u, by rw [List.getElem?_append_right (by rw [h.1]; exact Nat.le_refl _), h.1]; simp, by simpa using hu⟩
theorem SS_of_rowW {w W : World} {base : Nat} {v : Value} {vs : List Value} {ls : List (List UInt8)} (h : W.ownsRow base 22 1 v ls.length vs) (hc : CollW w vs ls) (hb : Below w.heap.size w W) : SS W v ls := by
  obtain ⟨hl, h2⟩ := h
  rcases h2 with ⟨rfl, h0⟩ | ⟨g, cap, cur, rfl, hb', hg, hcap, hm, hs, ht⟩
  · have : ls = [] := List.length_eq_zero_iff.1 h0
    subst this
    exact .inl ⟨rfl, rfl⟩
  · refine .inr ⟨_, cap, rfl, ⟨hcap, by unfold maxLen at hm; omega⟩, fun _ => ⟨g, 0, rfl, fun i hi => ?_⟩⟩
    obtain ⟨u, hu, hsb⟩ := hc.2 i hi
    refine ⟨u, ?_, hsb.below hb⟩
    rw [← ht, Nat.mul_one, List.getElem?_take_of_lt hi] at hu
    simp only [World.cell?, hg, Nat.zero_add]
    simpa using hu
theorem infoBs : (Try.prog.info? 22).map (fun i => (i.zero, i.size, i.bytes)) = some (some (.slice none 0 0), 1, 24) := by kernel_rfl
/-- where the search stands -/
def LnS (l : List UInt8) (i a k : Nat) : Prop := (1 ≤ i ∧ a ≤ i ∧ a ≤ l.length ∧ (i ≤ l.length ∨ i = 1) ∧ k ≤ (lns l).length) ∧ (∀ j, a ≤ j → j + 1 < i → ¬ (gb l j = 13 ∧ gb l (j + 1) = 10)) ∧ (lns l).drop k = lns (l.drop a)
theorem LnS.start (l : List UInt8) : LnS l 1 0 0 := ⟨⟨by omega, by omega, by omega, .inr rfl, by omega⟩, fun j _ h => by omega, rfl⟩
theorem LnS.skip {l : List UInt8} {i a k : Nat} (h : LnS l i a k) (hi : i < l.length) (hn : ¬ (gb l i = 10 ∧ gb l (i - 1) = 13 ∧ a ≤ i - 1)) : LnS l (i + 1) a k := by
  obtain ⟨⟨h1, h2, h3, h4, h5⟩, h6, h7⟩ := h
  refine ⟨⟨by omega, by omega, h3, .inl (by omega), h5⟩, fun j ha hj hh => ?_, h7⟩
  by_cases hji : j + 1 = i
  · subst hji
    exact hn ⟨hh.2, hh.1, ha⟩
  · exact h6 j ha (by omega) hh
theorem LnS.hit {l : List UInt8} {i a k : Nat} (h : LnS l i a k) (hi : i < l.length) (h10 : gb l i = 10) (h13 : gb l (i - 1) = 13) (ha : a ≤ i - 1) : (lns l)[k]? = some ((l.drop a).take (i + 1 - a)) ∧ LnS l (i + 1) (i + 1) (k + 1) := by
  obtain ⟨⟨h1, h2, h3, h4, h5⟩, h6, h7⟩ := h
  have hf := fl_at (l.drop a) (i - a) (fun j hj hh => by
    rw [gb_drop', gb_drop'] at hh
    exact h6 (a + j) (by omega) (by omega) hh) (by rw [List.length_drop]; omega) (by omega) (by rw [gb_drop', show a + (i - a - 1) = i - 1 by omega]; exact h13) (by rw [gb_drop', show a + (i - a) = i by omega]; exact h10)
  rw [show i - a + 1 = i + 1 - a by omega] at hf
  have hl := lns_some _ _ _ hf
  rw [List.drop_drop, show a + (i + 1 - a) = i + 1 by omega] at hl
  rw [hl] at h7
  have hg : (lns l)[k]? = some ((l.drop a).take (i + 1 - a)) := by
    have := congrArg (fun x => x[0]?) h7
    simpa using this
  refine ⟨hg, ⟨by omega, by omega, by omega, .inl (by omega), (List.getElem?_eq_some_iff.1 hg).1⟩, fun j hj1 hj2 => by omega, ?_⟩
  have := congrArg (List.drop 1) h7
  rw [List.drop_drop] at this
  simpa using this
theorem LnS.end_ {l : List UInt8} {i a k : Nat} (h : LnS l i a k) (hi : ¬ i < l.length) : (lns l).length = k := by
  obtain ⟨⟨h1, h2, h3, h4, h5⟩, h6, h7⟩ := h
  have hf := fl_no (l.drop a) (fun j hj hh => by
    rw [List.length_drop] at hj
    rw [gb_drop', gb_drop'] at hh
    exact h6 (a + j) (by omega) (by omega) hh)
  rw [lns_none _ hf] at h7
  have := congrArg List.length h7
  rw [List.length_drop] at this
  simp at this
  omega
theorem row_below {W W' : World} {base : Nat} {e : TypeId} {size : Nat} {v : Value} {k : Nat} {xs : List Value} (h : W.ownsRow base e size v k xs) (hb : Below W.heap.size W W') : W'.ownsRow base e size v k xs :=
  h.kept (row := none) ⟨hb.os, hb.tape, hb.output, hb.size, fun k hk _ => hb.block k hk⟩ (by cases v.ownBlock <;> simp)

set_option maxRecDepth 100000 in
set_option maxHeartbeats 2000000 in
/-- **the reference's Lines** -/
theorem qlines_any (v : Value) (l : List UInt8) (w : World) (hlen : l.length ≤ 3000000) (h : SB w v l) :
    Calls Try.prog 47 #[v] w fun e w' => ∃ u r, e = .returned (.tuple #[u, r]) ∧ SS w' u (lns l) ∧ Below w.heap.size w w' := by
  obtain ⟨A, c, rfl, hcap, hcm, h3⟩ := h.form
  obtain ⟨i0, hi, hz0, hz1, hz2⟩ := info_parts infoBs
  have HS := Lib.hid h
  have H3 := Lib.hid h3
  obtain ⟨L, hL⟩ : ∃ L, l.length = L := ⟨_, rfl⟩
  have HL := Lib.hid hL
  rw [hL] at hcap hlen HS H3 ⊢
  have hku := lns_len l.length l (Nat.le_refl _)
  have HKU := Lib.hid hku
  clear h h3 hL hku
  go_enter Try.func47, Try.ntmps47
  go_wp2
  go_loopw [4, 5, 6] (fun out x y wr => ∃ (i a k : Nat) (vs : List Value), (x = .int .i64 (a : Int) ∧ y = .int .i64 (i : Int)) ∧ Hid (LnS l i a k) ∧ wr.ownsRow w.heap.size 22 1 out k vs ∧ Hid (CollW w vs ((lns l).take k)) ∧ Below w.heap.size w wr) (fun _ _ y _ => L - (intOf y).toNat)
  case atStart => exact ⟨1, 0, 0, [], ⟨rfl, rfl⟩, LnS.start l, World.ownsRow_nil _ _ _ _, CollW.nil _, Below.refl _ _⟩
  case round =>
    obtain ⟨i, a, k, vs, ⟨rfl, rfl⟩, hln, hrow, hcoll, hB⟩ := hrel
    obtain ⟨b1, b2, b3, b4, b5⟩ := hln.out.1
    have hLL := HL.out
    by_cases hil : i < L
    · obtain ⟨g, o, rfl, hc⟩ := H3.out (by omega)
      have hc1 := cell_below (hc i hil) hB
      have hc2 := cell_below (hc (i - 1) (by omega)) hB
      obtain ⟨i1, hi1⟩ : ∃ j, i - 1 = j := ⟨_, rfl⟩
      have hsk := fun hn => LnS.skip hln.out (by omega) hn
      have hht := fun q1 q2 q3 => LnS.hit hln.out (by omega) q1 q2 q3
      rw [hi1] at hc2 hsk hht
      have w1 : IntKind.i64.wrap ((i : Int) - 1) = (i1 : Int) := by rw [IntWalk.i64_in _ (by omega)]; omega
      have w2 : IntKind.i64.wrap ((i : Int) + 1) = ((i + 1 : Nat) : Int) := by rw [IntWalk.i64_in _ (by omega)]; omega
      have l0 : (i : Int) < (L : Int) := by omega
      have l1 : (i1 : Int) < (L : Int) := by omega
      have HH := Lib.hid hht
      have HK := Lib.hid hsk
      obtain ⟨x, hx⟩ : ∃ x, gb l i = x := ⟨_, rfl⟩
      obtain ⟨y, hy⟩ : ∃ x, gb l i1 = x := ⟨_, rfl⟩
      rw [hx] at hc1
      rw [hy] at hc2
      have HX := Lib.hid hx
      have HY := Lib.hid hy
      have HROW := Lib.hid hrow
      have HB := Lib.hid hB
      clear hht hsk hc hx hy hrow hB
      by_cases e1 : x = 10
      · have q1 : ((x : Int) == 10) = true := beq_iff_eq.2 (by omega)
        by_cases e2 : y = 13
        · have q2 : ((y : Int) == 13) = true := beq_iff_eq.2 (by omega)
          by_cases e3 : a ≤ i1
          · have q3 : decide ((a : Int) ≤ (i1 : Int)) = true := decide_eq_true (by omega)
            have q3' : decide (a ≤ i1) = true := decide_eq_true e3
            obtain ⟨hg, hn⟩ := HH.out (by rw [HX.out]; exact e1) (by rw [HY.out]; exact e2) e3
            have hkl := (List.getElem?_eq_some_iff.1 hg).1
            have hpc : SB w (.slice (cutA (some ⟨g, o, none⟩) c a) (i + 1 - a) (c - a)) ((l.drop a).take (i + 1 - a)) := HS.out.cut a (i + 1 - a) (c - a) (by omega) rfl
            have hcut : cutA (some ⟨g, o, none⟩) c a = some ⟨g, o + a, none⟩ := by unfold cutA; rw [if_neg (by omega)]; simp only [Option.map_some, Lib.add_plain']
            rw [hcut] at hpc
            have hco := hcoll.out.snoc hpc
            have htk : (lns l).take (k + 1) = (lns l).take k ++ [(l.drop a).take (i + 1 - a)] := by rw [List.take_add_one, hg]; rfl
            rw [← htk] at hco
            have HCO := Lib.hid hco
            have HN := Lib.hid hn
            have hk2 : k + 1 ≤ 3000000 := by have := HKU.out.1; omega
            clear hg hn hpc hco htk HK HH hcut hcoll hln
            go_wp2_with (at_builtin; refine wpList_append_own _ rfl _ _ 56 rfl w.heap.size 22 i0 (.slice none 0 0) 1 24 Try.underlying56 hi hz0 hz1 hz2 rfl (by decide) _ _ _ rfl (HROW.out.alloc _) ⟨wr.heap.size, 0, none⟩ 1 1 [.slice (some ⟨g, o + a, none⟩) (i + 1 - a) (c - a)] rfl rfl (cell_one_new _ _ _) (by simp [Value.oneCell']) (by unfold maxLen; omega) (by omega) (by have := HB.out.size; simp; omega) ?_; intro v' w4 hown' hgrow _)
            have hB2 : Below w.heap.size w w4 := (HB.out.alloc HB.out.size _).grown hgrow (by have := HB.out.size; simp; omega) (fun j hj => (HROW.out.lt j hj).1)
            have HB2 := Lib.hid hB2
            have HO := Lib.hid hown'
            clear hgrow hB2 hown'
            go_roundw
            case rel => exact ⟨i + 1, i + 1, k + 1, _, ⟨by first | rfl | go_num, by first | rfl | go_num⟩, HN.out, HO.out, HCO.out, HB2.out⟩
            case measure => simp [intOf]; omega
          · have q3 : decide ((a : Int) ≤ (i1 : Int)) = false := decide_eq_false (by omega)
            have q3' : decide (a ≤ i1) = false := decide_eq_false e3
            have hn := HK.out (fun h => e3 h.2.2)
            have HN := Lib.hid hn
            clear hn HK HH
            go_wp2
            go_roundw
            case rel => exact ⟨i + 1, a, k, vs, ⟨rfl, by first | rfl | go_num⟩, HN.out, HROW.out, hcoll, HB.out⟩
            case measure => simp [intOf]; omega
        · have q2 : ((y : Int) == 13) = false := beq_eq_false_iff_ne.2 (by omega)
          have hn := HK.out (fun h => e2 (by rw [← HY.out]; exact h.2.1))
          have HN := Lib.hid hn
          clear hn HK HH
          go_wp2
          go_roundw
          case rel => exact ⟨i + 1, a, k, vs, ⟨rfl, by first | rfl | go_num⟩, HN.out, HROW.out, hcoll, HB.out⟩
          case measure => simp [intOf]; omega
      · have q1 : ((x : Int) == 10) = false := beq_eq_false_iff_ne.2 (by omega)
        have hn := HK.out (fun h => e1 (by rw [← HX.out]; exact h.1))
        have HN := Lib.hid hn
        clear hn HK HH
        go_wp2
        go_roundw
        case rel => exact ⟨i + 1, a, k, vs, ⟨rfl, by first | rfl | go_num⟩, HN.out, HROW.out, hcoll, HB.out⟩
        case measure => simp [intOf]; omega
    · have hend := hln.out.end_ (by omega)
      have HEND := Lib.hid hend
      have hss := SS_of_rowW (by rw [hend]; exact hrow) (by have := hcoll.out; rw [← hend, List.take_length] at this; exact this) hB
      have HSS := Lib.hid hss
      have HB := Lib.hid hB
      have ka := fun w => slice_run1 A L c a (by omega) (a : Int) rfl (L - a) (c - a) rfl rfl w
      clear hend hss hrow hB hcoll
      go_wp2
      go_quiet (fail)
      go_wp2
      go_ret2
      exact ⟨_, _, rfl, HSS.out, below_drewN HB.out _⟩
end Go.Proofs.Ytlgodokgebjjaaa

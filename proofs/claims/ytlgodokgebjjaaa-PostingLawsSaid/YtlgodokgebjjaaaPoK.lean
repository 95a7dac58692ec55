/- the heap of lists: down, Pop, Init, Fix. -/
import Derived.RangeFuncNested
import Derived.RangeFuncBound
import Derived.RangeFuncCalls
import Derived.RangeFuncLeaves
import Derived.Shelf.Abstract
import Derived.Shelf.RegionOpen
import Derived.WalkKit
import Derived.OwnWalkIn
import Derived.TacticsInMore
import Derived.LoopNIn
import Derived.LoopIn
import Derived.Outline
import Derived.Lib.Hide
import Derived.Lib.SliceRun
import Derived.IntWalk
import Derived.WalkLawsBesides
import Derived.WalkSpells
import Derived.Laws.BitsAllLaws
import Derived.Lib.ConvBytes
import Derived.Maps.AppendAt
import Derived.Lib.AppendStr
import Derived.Lib.SlBytesConst
import Derived.Laws.AppendOwnNone
import Derived.Laws.OwnMore
import Derived.Laws.BytesArg
import Derived.Deep.RegionHeld3
import Derived.BigQuiet
import Derived.Deep.RegionLaw
import Derived.Deep.QuietTactic
import Derived.Lib.OthersKept
import Derived.Test.YtlgodokgebjjaaaProg
import Derived.Deep.DeepFit
import Derived.Test.YtlgodokgebjjaaaPoJ
set_option linter.unusedVariables false
set_option linter.unusedSimpArgs false
namespace Go.Proofs.Ytlgodokgebjjaaa
open Go Go.RowKit Go.Shelf

/-- blocks that nothing here touches; those of them that the lists lie in -/
structure KK where
  all : Nat → Prop
  el : Nat → Prop
  sub : ∀ b, el b → all b
instance : Coe KK (Nat → Prop) := ⟨KK.all⟩
instance : CoeFun KK (fun _ => Nat → Prop) := ⟨KK.all⟩
/-- a row of the call's own that reads as these lists -/
def RF (W : World) (base : Nat) (K : KK) (v : Value) (xs : LL) : Prop := ∃ es : List El, FR W base v (es.map (·.1)) ∧ es.map (·.2) = xs ∧ ∀ e ∈ es, ND base K.el W e.1 e.2
theorem RF.form {W : World} {base : Nat} {K : KK} {v : Value} {xs : LL} (h : RF W base K v xs) (h0 : 0 < xs.length) : ∃ g c, v = .slice (some ⟨g, 0, none⟩) xs.length c ∧ base ≤ g ∧ g < W.heap.size ∧ xs.length ≤ c ∧ c ≤ 9223372036854775807 := by
  obtain ⟨es, h1, rfl, -⟩ := h
  obtain ⟨hl, h⟩ := h1
  rcases h with ⟨e, h0'⟩ | ⟨g', cap, cur, e, hb, hg, hc, hm, hs, ht⟩
  · simp only [List.length_map] at h0 h0'; omega
  · exact ⟨g', cap, by rw [e]; simp, hb, (Array.getElem?_eq_some_iff.1 hg).1, by simpa using hc, by unfold maxLen at hm; omega⟩
theorem RF.drewN {W : World} {base : Nat} {K : KK} {v : Value} {xs : LL} (h : RF W base K v xs) (n : Nat) : RF (W.drewN n) base K v xs := h
/-- only draws lie between two worlds -/
def Drawn (w w' : World) : Prop := ∃ m, w' = w.drewN m
theorem fless_dr (base g c : Nat) (K : KK) (a b : Int) (i j : Nat) (ea : a = i) (eb : b = j) (xs : LL) (w : World) (h : RF w base K (.slice (some ⟨g, 0, none⟩) xs.length c) xs)
    (hi : i < xs.length) (hj : j < xs.length) (ni : itF xs i ≠ []) (nj : itF xs j ≠ []) (hmax : xs.length ≤ 1000000) :
    Calls Try.prog 173 #[.slice (some ⟨g, 0, none⟩) xs.length c, .int .i64 a, .int .i64 b] w fun e w' => e = .returned (.bool (ltF (itF xs i) (itF xs j))) ∧ Drawn w w' := by
  obtain ⟨es, h1, rfl, h2⟩ := h
  simp only [List.length_map] at hi hj hmax
  exact fless_at base g c a b i j _ ea eb es w (by simp) h1 (fun e he => (h2 e he).1) hi hj ni nj hmax
theorem fswap_dr (base g c : Nat) (K : KK) (a b : Int) (i j : Nat) (ea : a = i) (eb : b = j) (xs : LL) (w : World) (h : RF w base K (.slice (some ⟨g, 0, none⟩) xs.length c) xs) (hKg : ¬ K g) (hbg : base ≤ g)
    (hi : i < xs.length) (hj : j < xs.length) (hmax : xs.length ≤ 1000000) :
    Calls Try.prog 174 #[.slice (some ⟨g, 0, none⟩) xs.length c, .int .i64 a, .int .i64 b] w fun e w' => e = .returned (.tuple #[]) ∧ RF w' base K (.slice (some ⟨g, 0, none⟩) xs.length c) (swapF xs i j) ∧ w.grownBy w' (some g) := by
  obtain ⟨es, h1, rfl, h2⟩ := h
  simp only [List.length_map] at hi hj hmax
  refine (fswap_at base g c a b i j _ ea eb es w (by simp) h1 (fun e he => (h2 e he).1) hi hj hmax).mono ?_
  rintro e w' ⟨rfl, r1, r2⟩
  have hk : KeepOn base K w w' := KeepOn.of_grown r2 (fun k e => by cases e; exact ⟨hbg, hKg⟩)
  refine ⟨rfl, ⟨swapE es i j, r1, swapE_snd es i j hi hj, fun e he => (h2 e (mem_swapE hi hj he)).keep hk K.sub⟩, r2⟩
abbrev hvF (B : Nat) : Value := .iface 112 (.pointer (some ⟨B, 0, none⟩))
/-- THE HEAP AT B HOLDS THESE LISTS, in this order; it lies in no block that K names; the lists lie there, or below. -/
def HF (W : World) (base B : Nat) (K : KK) (xs : LL) : Prop := ∃ v, Boxed W B 110 v ∧ RF W base K v xs ∧ (∀ r, v.ownBlock = some r → ¬ K r) ∧ ¬ K B ∧ (∀ b, K b → b < W.heap.size)
theorem boxF_row {W : World} {base B g n c : Nat} {v : Value} {K : KK} {xs : LL} (hb : Boxed W B 110 v) (hr : RF W base K (.slice (some ⟨g, 0, none⟩) n c) xs) : B ≠ g := by
  obtain ⟨es, h1, rfl, h2⟩ := hr
  intro e
  subst e
  exact (hb.not_row (by decide) h1) rfl
theorem KeepOn.drewN {n₀ : Nat} {D : Nat → Prop} {w W : World} (h : KeepOn n₀ D w W) (n : Nat) : KeepOn n₀ D w (W.drewN n) := ⟨h.os, h.tape, h.output, h.size, h.block⟩
theorem KeepOn.grown {n₀ : Nat} {D : Nat → Prop} {a w w' : World} {row : Option Nat} (h : KeepOn n₀ D a w) (hg : w.grownBy w' row) (hr : ∀ k, row = some k → n₀ ≤ k ∧ ¬ D k) : KeepOn n₀ D a w' := h.trans (KeepOn.of_grown hg hr)
/-- a truth value comes back -/
def IsB (e : Ending) : Prop := ∃ v : Bool, e = .returned (.bool v)
theorem isB (v : Bool) : IsB (.returned (.bool v)) := ⟨v, rfl⟩
theorem Drawn.below {w w' : World} (h : Drawn w w') {B : Nat} {a : World} (hb : Below B a w) : Below B a w' := by obtain ⟨m, rfl⟩ := h; exact below_drewN hb m
theorem Drawn.keep {w w' : World} (h : Drawn w w') {n₀ : Nat} {D : Nat → Prop} {a : World} (hb : KeepOn n₀ D a w) : KeepOn n₀ D a w' := by obtain ⟨m, rfl⟩ := h; exact hb.drewN m
theorem Drawn.size {w w' : World} (h : Drawn w w') : w.heap.size ≤ w'.heap.size := by obtain ⟨m, rfl⟩ := h; exact Nat.le_refl _
theorem Drawn.row {w w' : World} (h : Drawn w w') {base : Nat} {K : KK} {v : Value} {xs : LL} (hr : RF w base K v xs) : RF w' base K v xs := by obtain ⟨m, rfl⟩ := h; exact hr
theorem Drawn.box {w w' : World} (h : Drawn w w') {B : Nat} {t : TypeId} {v : Value} (hr : Boxed w B t v) : Boxed w' B t v := by obtain ⟨m, rfl⟩ := h; exact hr
set_option maxRecDepth 100000 in
set_option maxHeartbeats 2000000 in
theorem fdown_any (base B n i0 : Nat) (a0 a : Int) (e0 : a0 = i0) (ea : a = n) (xs : LL) (w : World) (K : KK) (h : HF w base B K xs) (hn : n ≤ xs.length) (hi0 : i0 ≤ n) (hne : ∀ j, j < n → itF xs j ≠ []) (hmax : xs.length ≤ 100000) (hB : base ≤ B) :
    Calls Try.prog 118 #[hvF B, .int .i64 a0, .int .i64 a] w fun e w' => IsB e ∧ HF w' base B K (downF n xs i0 n) ∧ KeepOn base K w w' := by
  subst e0 ea
  obtain ⟨R, hR⟩ : ∃ R, downF n xs i0 n = R := ⟨_, rfl⟩
  rw [hR]
  go_enter Try.func118, Try.ntmps118
  go_wp2
  go_loopw [7, 8, 9, 10] (fun q _ _ _ wr => ∃ (f i : Nat) (xs : LL), q = .int .i64 (i : Int) ∧ n ≤ f + i ∧ Hid (downF f xs i n = R) ∧ HF wr base B K xs ∧ n ≤ xs.length ∧ i ≤ n ∧ xs.length ≤ 100000 ∧ Hid (∀ j, j < n → itF xs j ≠ []) ∧ KeepOn base K w wr) (fun q _ _ _ _ => n - (intOf q).toNat)
  case atStart => exact ⟨n, i0, xs, rfl, by omega, hR, h, hn, hi0, hmax, hne, KeepOn.refl _ _ _⟩
  case round =>
    clear hR h hne
    obtain ⟨f, i, xs, rfl, hf, hR, ⟨v, hbx, hrow, hvD, hBD, hDs⟩, hn, hin, hmax, hne, hBl⟩ := hrel
    have HvD := Lib.hid hvD
    have HDs := Lib.hid hDs
    clear hvD hDs
    have hc := hbx.cell
    by_cases hend : n ≤ 2 * i + 1
    · have Hrow := Lib.hid hrow
      have Hbx := Lib.hid hbx
      clear hrow hbx
      have hRx : Hid (xs = R) := by have := hR.out; rw [downF_stop (.inl hend)] at this; exact this
      go_wp2
      go_ret
      exact ⟨isB _, hRx.out ▸ ⟨_, Hbx.out, Hrow.out, HvD.out, hBD, HDs.out⟩, hBl⟩
    · obtain ⟨g, c, rfl, hgb, -⟩ := hrow.form (by omega)
      have hBg := boxF_row hbx hrow
      have hKg : ¬ K g := HvD.out g rfl
      have HNE := Lib.hid (hne.out i (by omega))
      have HNE1 := Lib.hid (hne.out (2 * i + 1) (by omega))
      have m1 := fun (w : World) h => methF_less B (.slice (some ⟨g, 0, none⟩) xs.length c) w h
      have m2 := fun (w : World) h => methF_swap B (.slice (some ⟨g, 0, none⟩) xs.length c) w h
      have Hrow := Lib.hid hrow
      have Hbx := Lib.hid hbx
      have hswne : ∀ k, k < n → k < xs.length → i < xs.length → Hid (∀ j, j < n → itF (swapF xs i k) j ≠ []) := fun k hk hk2 hi2 j hj => by
        rw [itF_swap hi2 hk2]
        split
        · exact hne.out i (by omega)
        · split
          · exact hne.out k hk
          · exact hne.out j hj
      have HSW := Lib.hid hswne
      clear hrow hbx hswne
      by_cases h2 : 2 * i + 2 < n
      · go_wp2_with fail
        refine (fless_dr base g c K _ _ (2 * i + 2) (2 * i + 1) (by omega) (by omega) xs _ Hrow.out (by omega) (by omega) (hne.out (2 * i + 2) (by omega)) HNE1.out (by omega)).mono ?_
        rintro e w2 ⟨rfl, hd2⟩
        have hB2 := hd2.keep hBl
        have hDs2 := Lib.hid (fun b hb => Nat.lt_of_lt_of_le (HDs.out b hb) hd2.size)
        have Hr2 := Lib.hid (hd2.row Hrow.out)
        have Hb2 := Lib.hid (hd2.box Hbx.out)
        have hc2 := Boxed.cell Hb2.out
        clear hd2 hc
        have hc := hc2
        cases hl2 : ltF (itF xs (2 * i + 2)) (itF xs (2 * i + 1)) with
        | true =>
          have hk : Hid (kidF xs i n = 2 * i + 2) := by unfold Hid kidF; rw [if_pos ⟨h2, hl2⟩]
          clear hl2
          have hkl := kidF_lt (xs := xs) hend
          rw [hk.out] at hkl
          obtain ⟨hk1, hk2⟩ := hkl
          go_wp2_with fail
          refine (fless_dr base g c K _ _ (2 * i + 2) i (by omega) (by omega) xs _ Hr2.out (by omega) (by omega) (hne.out (2 * i + 2) (by omega)) HNE.out (by omega)).mono ?_
          rintro e w3 ⟨rfl, hd3⟩
          have hB3 := hd3.keep hB2
          have hDs3 := Lib.hid (fun b hb => Nat.lt_of_lt_of_le (hDs2.out b hb) hd3.size)
          have Hr3 := Lib.hid (hd3.row Hr2.out)
          have Hb3 := Lib.hid (hd3.box Hb2.out)
          have hc3 := Boxed.cell Hb3.out
          clear hd3
          cases hlt : ltF (itF xs (2 * i + 2)) (itF xs i) with
          | false =>
            have hRx : Hid (xs = R) := by have := hR.out; rw [downF_stop (.inr (by rw [hk.out]; exact hlt))] at this; exact this
            clear hlt
            go_wp2
            go_ret
            exact ⟨isB _, hRx.out ▸ ⟨_, Hb3.out, Hr3.out, HvD.out, hBD, hDs3.out⟩, hB3⟩
          | true =>
            have Hlt := Lib.hid hlt
            clear hlt
            go_wp2_with fail
            refine (fswap_dr base g c K _ _ i (2 * i + 2) (by omega) (by omega) xs _ Hr3.out hKg hgb (by omega) (by omega) (by omega)).mono ?_
            rintro e w4 ⟨rfl, hrow4, hg4⟩
            have hbx4 : Boxed w4 B 110 _ := Boxed.kept Hb3.out hg4 (by simpa using hBg)
            have hB4 := hB3.grown hg4 (fun k e => by cases e; exact ⟨hgb, HvD.out g rfl⟩)
            have Hr4 : Hid (RF w4 base K (.slice (some ⟨g, 0, none⟩) xs.length c) (swapF xs i (2 * i + 2))) := hrow4
            have Hb4 := Lib.hid hbx4
            have hDs4 := Lib.hid (fun b hb => Nat.lt_of_lt_of_le (hDs3.out b hb) hg4.size)
            have hc4 := hbx4.cell
            clear hrow4 hbx4 hc hc3 m1 m2 hg4
            go_wp2
            go_roundw
            case rel =>
              obtain ⟨f', rfl⟩ : ∃ f', f = f' + 1 := ⟨f - 1, by omega⟩
              refine ⟨f', 2 * i + 2, swapF xs i (2 * i + 2), by go_num, by omega, ?_, ⟨_, Hb4.out, Hr4.out, HvD.out, hBD, hDs4.out⟩, by rw [swapF_len]; omega, by omega, by rw [swapF_len]; exact hmax, HSW.out (2 * i + 2) (by omega) (by omega) (by omega), hB4⟩
              have := hR.out
              rw [downF, if_neg (by rw [hk.out]; simp; exact ⟨by omega, Hlt.out⟩), hk.out] at this
              exact this
            case measure => simp [intOf]; omega
        | false =>
          have hk : Hid (kidF xs i n = 2 * i + 1) := by unfold Hid kidF; rw [if_neg (by simp [hl2])]
          clear hl2
          have hkl := kidF_lt (xs := xs) hend
          rw [hk.out] at hkl
          obtain ⟨hk1, hk2⟩ := hkl
          go_wp2_with fail
          refine (fless_dr base g c K _ _ (2 * i + 1) i (by omega) (by omega) xs _ Hr2.out (by omega) (by omega) HNE1.out HNE.out (by omega)).mono ?_
          rintro e w3 ⟨rfl, hd3⟩
          have hB3 := hd3.keep hB2
          have hDs3 := Lib.hid (fun b hb => Nat.lt_of_lt_of_le (hDs2.out b hb) hd3.size)
          have Hr3 := Lib.hid (hd3.row Hr2.out)
          have Hb3 := Lib.hid (hd3.box Hb2.out)
          have hc3 := Boxed.cell Hb3.out
          clear hd3
          cases hlt : ltF (itF xs (2 * i + 1)) (itF xs i) with
          | false =>
            have hRx : Hid (xs = R) := by have := hR.out; rw [downF_stop (.inr (by rw [hk.out]; exact hlt))] at this; exact this
            clear hlt
            go_wp2
            go_ret
            exact ⟨isB _, hRx.out ▸ ⟨_, Hb3.out, Hr3.out, HvD.out, hBD, hDs3.out⟩, hB3⟩
          | true =>
            have Hlt := Lib.hid hlt
            clear hlt
            go_wp2_with fail
            refine (fswap_dr base g c K _ _ i (2 * i + 1) (by omega) (by omega) xs _ Hr3.out hKg hgb (by omega) (by omega) (by omega)).mono ?_
            rintro e w4 ⟨rfl, hrow4, hg4⟩
            have hbx4 : Boxed w4 B 110 _ := Boxed.kept Hb3.out hg4 (by simpa using hBg)
            have hB4 := hB3.grown hg4 (fun k e => by cases e; exact ⟨hgb, HvD.out g rfl⟩)
            have Hr4 : Hid (RF w4 base K (.slice (some ⟨g, 0, none⟩) xs.length c) (swapF xs i (2 * i + 1))) := hrow4
            have Hb4 := Lib.hid hbx4
            have hDs4 := Lib.hid (fun b hb => Nat.lt_of_lt_of_le (hDs3.out b hb) hg4.size)
            have hc4 := hbx4.cell
            clear hrow4 hbx4 hc hc3 m1 m2 hg4
            go_wp2
            go_roundw
            case rel =>
              obtain ⟨f', rfl⟩ : ∃ f', f = f' + 1 := ⟨f - 1, by omega⟩
              refine ⟨f', 2 * i + 1, swapF xs i (2 * i + 1), by go_num, by omega, ?_, ⟨_, Hb4.out, Hr4.out, HvD.out, hBD, hDs4.out⟩, by rw [swapF_len]; omega, by omega, by rw [swapF_len]; exact hmax, HSW.out (2 * i + 1) (by omega) (by omega) (by omega), hB4⟩
              have := hR.out
              rw [downF, if_neg (by rw [hk.out]; simp; exact ⟨by omega, Hlt.out⟩), hk.out] at this
              exact this
            case measure => simp [intOf]; omega
      · have hk : Hid (kidF xs i n = 2 * i + 1) := by unfold Hid kidF; rw [if_neg (by omega)]
        have hkl := kidF_lt (xs := xs) hend
        rw [hk.out] at hkl
        obtain ⟨hk1, hk2⟩ := hkl
        go_wp2_with fail
        refine (fless_dr base g c K _ _ (2 * i + 1) i (by omega) (by omega) xs _ Hrow.out (by omega) (by omega) HNE1.out HNE.out (by omega)).mono ?_
        rintro e w3 ⟨rfl, hd3⟩
        have hB3 := hd3.keep hBl
        have hDs3 := Lib.hid (fun b hb => Nat.lt_of_lt_of_le (HDs.out b hb) hd3.size)
        have Hr3 := Lib.hid (hd3.row Hrow.out)
        have Hb3 := Lib.hid (hd3.box Hbx.out)
        have hc3 := Boxed.cell Hb3.out
        clear hd3
        cases hlt : ltF (itF xs (2 * i + 1)) (itF xs i) with
        | false =>
          have hRx : Hid (xs = R) := by have := hR.out; rw [downF_stop (.inr (by rw [hk.out]; exact hlt))] at this; exact this
          clear hlt
          go_wp2
          go_ret
          exact ⟨isB _, hRx.out ▸ ⟨_, Hb3.out, Hr3.out, HvD.out, hBD, hDs3.out⟩, hB3⟩
        | true =>
          have Hlt := Lib.hid hlt
          clear hlt
          go_wp2_with fail
          refine (fswap_dr base g c K _ _ i (2 * i + 1) (by omega) (by omega) xs _ Hr3.out hKg hgb (by omega) (by omega) (by omega)).mono ?_
          rintro e w4 ⟨rfl, hrow4, hg4⟩
          have hbx4 : Boxed w4 B 110 _ := Boxed.kept Hb3.out hg4 (by simpa using hBg)
          have hB4 := hB3.grown hg4 (fun k e => by cases e; exact ⟨hgb, HvD.out g rfl⟩)
          have Hr4 : Hid (RF w4 base K (.slice (some ⟨g, 0, none⟩) xs.length c) (swapF xs i (2 * i + 1))) := hrow4
          have Hb4 := Lib.hid hbx4
          have hDs4 := Lib.hid (fun b hb => Nat.lt_of_lt_of_le (hDs3.out b hb) hg4.size)
          have hc4 := hbx4.cell
          clear hrow4 hbx4 hc hc3 m1 m2 hg4
          go_wp2
          go_roundw
          case rel =>
            obtain ⟨f', rfl⟩ : ∃ f', f = f' + 1 := ⟨f - 1, by omega⟩
            refine ⟨f', 2 * i + 1, swapF xs i (2 * i + 1), by go_num, by omega, ?_, ⟨_, Hb4.out, Hr4.out, HvD.out, hBD, hDs4.out⟩, by rw [swapF_len]; omega, by omega, by rw [swapF_len]; exact hmax, HSW.out (2 * i + 1) (by omega) (by omega) (by omega), hB4⟩
            have := hR.out
            rw [downF, if_neg (by rw [hk.out]; simp; exact ⟨by omega, Hlt.out⟩), hk.out] at this
            exact this
          case measure => simp [intOf]; omega
theorem RF.init {W : World} {base g n c : Nat} {K : KK} {ys : LL} {y : List Int} (h : RF W base K (.slice (some ⟨g, 0, none⟩) n c) (ys ++ [y])) : RF W base K (.slice (some ⟨g, 0, none⟩) ys.length c) ys := by
  obtain ⟨es, h1, h2, h3⟩ := h
  have hne : es ≠ [] := by intro e; subst e; simp at h2
  obtain ⟨es1, e1, rfl⟩ : ∃ a b, es = a ++ [b] := ⟨es.dropLast, es.getLast hne, (List.dropLast_concat_getLast hne).symm⟩
  rw [List.map_append, List.map_singleton] at h1 h2
  obtain ⟨rfl, -⟩ := List.append_inj' h2 rfl
  refine ⟨es1, ?_, rfl, fun e he => h3 e (List.mem_append_left _ he)⟩
  obtain ⟨hl, h⟩ := h1
  rcases h with ⟨e, _⟩ | ⟨g', cap, cur, e, hb, hg, hc, hm, hs, ht⟩
  · cases e
  · cases e
    have hc' : es1.length + 1 ≤ c := by simpa using hc
    refine ⟨by simp, .inr ⟨g, c, cur, by simp, hb, hg, by simp at hc ⊢; omega, hm, hs, ?_⟩⟩
    have := congrArg (List.take (es1.length * 1)) ht
    rw [List.take_take, List.take_append_of_le_length (by simp), List.take_of_length_le (l := es1.map (·.1)) (by simp)] at this
    rw [← this]
    congr 1
    simp
    omega
set_option maxRecDepth 100000 in
set_option maxHeartbeats 1000000 in
theorem fpop_any (base B : Nat) (ys : LL) (y : List Int) (w : World) (K : KK) (h : HF w base B K (ys ++ [y])) (hmax : ys.length ≤ 100000) (hB : base ≤ B) :
    Calls Try.prog 175 #[.pointer (some ⟨B, 0, none⟩)] w fun e w' => (∃ u, e = .returned u) ∧ HF w' base B K ys ∧ KeepOn base K w w' := by
  obtain ⟨v, hbx, hrow, hvK, hBK, hKs⟩ := h
  obtain ⟨g, c, rfl, hgb, hgl, hcap, hcap2⟩ := hrow.form (by simp)
  have hl : (ys ++ [y]).length = ys.length + 1 := by simp
  have hr : RF w base K (.slice (some ⟨g, 0, none⟩) ys.length c) ys := hrow.init
  have hlast : ∃ A n' c', w.cell? ⟨g, ys.length, none⟩ = some (.slice A n' c') := by
    obtain ⟨es, h1, h2, h3⟩ := hrow
    have hle : es.length = ys.length + 1 := by rw [← hl, ← h2]; simp
    obtain ⟨a1, -⟩ := h1.cells ys.length (by simp; omega)
    rw [itE_fst es ys.length (by omega)] at a1
    obtain ⟨A', c', e, -⟩ := (h3 _ (itE_mem es ys.length (by omega))).1
    rw [e] at a1
    exact ⟨_, _, _, a1⟩
  obtain ⟨A', n', c', a1⟩ := hlast
  have hc := hbx.cell
  have hf := hbx.frozen
  rw [hl] at hcap hc
  have hBg := boxF_row hbx hrow
  have Hr := Lib.hid hr
  have Hbx := Lib.hid hbx
  have HvK := Lib.hid hvK
  have HKs := Lib.hid hKs
  clear hrow hbx hl hr hvK hKs
  obtain ⟨n, hn⟩ : ∃ n, ys.length = n := ⟨_, rfl⟩
  have HN := Lib.hid hn
  rw [hn] at a1 hc hcap hmax
  clear hn
  go_enter Try.func175, Try.ntmps175
  go_wp2
  go_ret
  have hg2 := grownBy_setCell' w B (.slice (some ⟨g, 0, none⟩) n c)
  have hkp := KeepOn.setCell w B (.slice (some ⟨g, 0, none⟩) n c) hB hBK
  have hr2 : RF (w.setCell ⟨B, 0, none⟩ (.slice (some ⟨g, 0, none⟩) n c)) base K (.slice (some ⟨g, 0, none⟩) n c) ys := by
    obtain ⟨es, h1, h2, h3⟩ := Hr.out
    rw [HN.out] at h1
    exact ⟨es, World.ownsRow.kept (row := some B) h1 hg2 (.inr (fun e => hBg (by simpa [Value.ownBlock] using e.symm))), h2, fun e he => (h3 e he).keep hkp K.sub⟩
  exact ⟨⟨_, rfl⟩, ⟨_, Boxed.set _ Hbx.out, hr2, HvK.out, hBK, fun b hb => Nat.lt_of_lt_of_le (HKs.out b hb) hkp.size⟩, hkp⟩
set_option maxRecDepth 100000 in
set_option maxHeartbeats 1000000 in
/-- **heap.Pop** -/
theorem fhpop_any (base B : Nat) (xs ys : LL) (y : List Int) (w : World) (K : KK) (h : HF w base B K xs) (h0 : 0 < xs.length) (hmax : xs.length ≤ 100000) (hB : base ≤ B) (hp : popF xs = ys ++ [y]) (hne : ∀ j, j < xs.length - 1 → itF (swapF xs 0 (xs.length - 1)) j ≠ []) :
    Calls Try.prog 94 #[hvF B] w fun e w' => (∃ u, e = .returned u) ∧ HF w' base B K ys ∧ KeepOn base K w w' := by
  have Hp := Lib.hid hp
  have HNE := Lib.hid hne
  have hyl : ys.length + 1 = xs.length := by have := popF_len xs; rw [hp] at this; simpa using this
  clear hp hne
  have mp := fun w => methF_pop B w
  obtain ⟨v, hbx, hrow, hvK, hBK, hKs⟩ := h
  have HvK := Lib.hid hvK
  have HKs := Lib.hid hKs
  clear hvK hKs
  have hc := hbx.cell
  obtain ⟨g, c, rfl, hgb, -⟩ := hrow.form h0
  have hBg := boxF_row hbx hrow
  have hKg : ¬ K g := HvK.out g rfl
  have m1 := fun (w : World) h => methF_len B (.slice (some ⟨g, 0, none⟩) xs.length c) w h
  have m2 := fun (w : World) h => methF_swap B (.slice (some ⟨g, 0, none⟩) xs.length c) w h
  have Hrow := Lib.hid hrow
  have Hbx := Lib.hid hbx
  clear hrow hbx
  have Hyl := Lib.hid hyl
  clear hyl
  go_enter Try.func94, Try.ntmps94
  go_wp2_with fail
  refine (flen_any _ _ _ _).mono ?_
  rintro e w2 ⟨rfl, rfl⟩
  go_wp2_with fail
  refine (fswap_dr base g c K _ _ 0 (xs.length - 1) rfl (by omega) xs _ Hrow.out hKg hgb h0 (by omega) (by omega)).mono ?_
  rintro e w2 ⟨rfl, hrow2, hg2⟩
  have hbx2 : Boxed w2 B 110 _ := Boxed.kept Hbx.out hg2 (by simpa using hBg)
  have hB2 := (KeepOn.refl base K w).grown hg2 (fun k e => by cases e; exact ⟨hgb, hKg⟩)
  have hKs2 := Lib.hid (fun b hb => Nat.lt_of_lt_of_le (HKs.out b hb) hg2.size)
  clear m1 m2 hc hg2
  go_wp2_with fail
  refine (fdown_any base B (xs.length - 1) 0 _ _ rfl (by omega) (swapF xs 0 (xs.length - 1)) w2 K ⟨_, hbx2, hrow2, HvK.out, hBK, hKs2.out⟩ (by rw [swapF_len]; omega) (Nat.zero_le _) HNE.out (by rw [swapF_len]; exact hmax) hB).mono ?_
  rintro e w3 ⟨⟨u, rfl⟩, hs3, hB3⟩
  have hs3' : HF w3 base B K (ys ++ [y]) := by rw [← Hp.out]; exact hs3
  have Hs3 := Lib.hid hs3'
  clear hs3 hs3' hrow2 hbx2
  have hyl : ys.length ≤ 100000 := by have := Hyl.out; omega
  go_wp2_with fail
  refine (fpop_any base B ys y w3 K Hs3.out hyl hB).mono ?_
  rintro e w4 ⟨⟨u4, rfl⟩, hs4, hB4⟩
  go_wp2
  go_ret
  exact ⟨⟨_, rfl⟩, hs4, (hB2.trans hB3).trans hB4⟩
set_option maxRecDepth 100000 in
set_option maxHeartbeats 1000000 in
theorem up0_any (B : Nat) (w : World) : Calls Try.prog 119 #[hvF B, .int .i64 0] w fun e w' => e = .returned (.tuple #[]) ∧ w' = w := by
  go_enter Try.func119, Try.ntmps119
  go_wp2
  go_loopw [1, 4] (fun q _ wr => q = .int .i64 0 ∧ wr = w) (fun _ _ _ => 0)
  case atStart => exact ⟨rfl, rfl⟩
  case round =>
    obtain ⟨rfl, rfl⟩ := hrel
    go_wp2
    go_end0
    exact ⟨rfl, rfl⟩
set_option maxRecDepth 100000 in
set_option maxHeartbeats 1000000 in
/-- **heap.Fix**, of the first -/
theorem ffix_any (base B : Nat) (xs : LL) (w : World) (K : KK) (h : HF w base B K xs) (h0 : 0 < xs.length) (hmax : xs.length ≤ 100000) (hB : base ≤ B) (hne : ∀ j, j < xs.length → itF xs j ≠ []) :
    Calls Try.prog 95 #[hvF B, .int .i64 0] w fun e w' => e = .returned (.tuple #[]) ∧ HF w' base B K (downF xs.length xs 0 xs.length) ∧ KeepOn base K w w' := by
  have H1 := Lib.hid (fdown_any base B xs.length 0 0 xs.length rfl rfl xs w K h (Nat.le_refl _) (Nat.zero_le _) hne hmax hB)
  obtain ⟨v, hbx, hrow, hvK, hBK, hKs⟩ := h
  have hc := hbx.cell
  obtain ⟨g, c, rfl, hgb, -⟩ := hrow.form h0
  have m1 := fun (w : World) h => methF_len B (.slice (some ⟨g, 0, none⟩) xs.length c) w h
  clear hrow hbx hne hvK hKs
  go_enter Try.func95, Try.ntmps95
  go_wp2_with fail
  refine (flen_any _ _ _ _).mono ?_
  rintro e w2 ⟨rfl, rfl⟩
  go_wp2_with fail
  refine H1.out.mono ?_
  rintro e w3 ⟨⟨u, rfl⟩, hs3, hB3⟩
  have HS3 := Lib.hid hs3
  have HB3 := Lib.hid hB3
  clear hs3 hB3 m1 hc
  cases u
  · go_wp2_with fail
    refine (up0_any B w3).mono ?_
    rintro e w4 ⟨rfl, rfl⟩
    go_wp2
    go_end0
    exact ⟨rfl, HS3.out, HB3.out⟩
  · go_wp2
    go_end0
    exact ⟨rfl, HS3.out, HB3.out⟩
set_option maxRecDepth 100000 in
set_option maxHeartbeats 1000000 in
/-- **heap.Init** -/
theorem finit_any (base B : Nat) (xs : LL) (w : World) (K : KK) (h : HF w base B K xs) (hmax : xs.length ≤ 100000) (hB : base ≤ B) (hne : ∀ l ∈ xs, l ≠ []) :
    Calls Try.prog 93 #[hvF B] w fun e w' => e = .returned (.tuple #[]) ∧ HF w' base B K (initF (xs.length / 2) xs) ∧ KeepOn base K w w' := by
  obtain ⟨n, hn⟩ : ∃ n, xs.length = n := ⟨_, rfl⟩
  rw [hn] at hmax ⊢
  obtain ⟨R, hR⟩ : ∃ R, initF (n / 2) xs = R := ⟨_, rfl⟩
  rw [hR]
  obtain ⟨v, hbx, hrow, -⟩ := id h
  have hc := hbx.cell
  have hv : ∃ A c, v = .slice A n c := by
    obtain ⟨es, h1, rfl, -⟩ := hrow
    rcases h1.2 with ⟨e, h0⟩ | ⟨g', cap, cur, e, -⟩
    · exact ⟨none, 0, by rw [e, ← hn]; simp only [List.length_map] at h0 ⊢; rw [h0]⟩
    · exact ⟨some ⟨g', 0, none⟩, cap, by rw [e, ← hn]; simp⟩
  obtain ⟨A, c, rfl⟩ := hv
  have m1 := fun (w : World) h => methF_len B (.slice A n c) w h
  clear hrow hbx
  have H := Lib.hid h
  have HN := Lib.hid hn
  have HNE := Lib.hid hne
  have HR := Lib.hid hR
  clear h hn hne hR
  go_enter Try.func93, Try.ntmps93
  go_wp2_with fail
  refine (flen_any _ _ _ _).mono ?_
  rintro e w2 ⟨rfl, rfl⟩
  clear hc m1
  go_wp2_with fail
  go_loopw [3] (fun q wr => ∃ (k : Nat) (xs : LL), (q = .int .i64 ((k : Int) - 1) ∧ k ≤ n / 2) ∧ xs.length = n ∧ Hid (initF k xs = R) ∧ HF wr base B K xs ∧ Hid (∀ l ∈ xs, l ≠ []) ∧ KeepOn base K w wr) (fun q _ => (intOf q + 1).toNat)
  case atStart => exact ⟨n / 2, xs, ⟨by go_num, Nat.le_refl _⟩, HN.out, HR.out, H.out, HNE.out, KeepOn.refl _ _ _⟩
  case round =>
    obtain ⟨k, ys, ⟨rfl, hk⟩, hl, hRk, hs, hnk, hkp⟩ := hrel
    have HL := Lib.hid hl
    have HS := Lib.hid hs
    have HKP := Lib.hid hkp
    clear hl hs hkp H HN HNE HR
    cases k with
    | zero =>
      have d0 : decide ((0 : Int) ≤ ((0 : Nat) : Int) - 1) = false := by decide
      go_wp2
      go_end0
      exact ⟨rfl, by have := hRk.out; rw [initF] at this; rw [← this]; exact HS.out, HKP.out⟩
    | succ k =>
      have e1 : ((k + 1 : Nat) : Int) - 1 = (k : Int) := by omega
      rw [e1]
      have k0 : decide ((0 : Int) ≤ (k : Int)) = true := decide_eq_true (by omega)
      have H1 := Lib.hid (fdown_any base B n k k n rfl rfl ys wr K HS.out (by rw [HL.out]; exact Nat.le_refl _) (by omega) (fun j hj => hnk.out _ (itF_mem (by rw [HL.out]; exact hj))) (by rw [HL.out]; exact hmax) hB)
      go_wp2_with fail
      refine H1.out.mono ?_
      rintro e w3 ⟨⟨u, rfl⟩, hs3, hB3⟩
      have hl3 : (downF n ys k n).length = n := by rw [downF_len, HL.out]
      have hR3 : Hid (initF k (downF n ys k n) = R) := by have := hRk.out; rw [initF, HL.out] at this; exact this
      have hn3 : Hid (∀ l ∈ downF n ys k n, l ≠ []) := fun l hl => hnk.out l ((downF_memH n n k ys trivial (by rw [HL.out]; exact Nat.le_refl _) l).1 hl)
      obtain ⟨zs, hz⟩ : ∃ zs, downF n ys k n = zs := ⟨_, rfl⟩
      rw [hz] at hs3 hl3 hR3 hn3
      have HS3 := Lib.hid hs3
      have HB3 := Lib.hid hB3
      clear hs3 hB3 hz
      go_wp2
      go_roundw
      case rel => exact ⟨k, zs, ⟨by go_num, by omega⟩, hl3, hR3, HS3.out, hn3, HKP.out.trans HB3.out⟩
      case measure => simp [intOf]
end Go.Proofs.Ytlgodokgebjjaaa

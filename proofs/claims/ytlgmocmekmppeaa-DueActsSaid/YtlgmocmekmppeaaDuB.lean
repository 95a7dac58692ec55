/- The heap of items: pushed onto. -/
import Derived.RangeFuncNested
import Derived.RangeFuncBound
import Derived.RangeFuncCalls
import Derived.RangeFuncLeaves
import Derived.Shelf.Abstract
import Derived.Shelf.RegionOpen
import Derived.WalkKit
import Derived.OwnWalkIn
import Derived.TacticsInMore
import Derived.LoopNIn
import Derived.LoopIn
import Derived.Outline
import Derived.Lib.Hide
import Derived.Lib.SliceRun
import Derived.IntWalk
import Derived.WalkLawsBesides
import Derived.WalkSpells
import Derived.Laws.BitsAllLaws
import Derived.Lib.ConvBytes
import Derived.Maps.AppendAt
import Derived.Lib.AppendStr
import Derived.Lib.SlBytesConst
import Derived.Laws.AppendOwnNone
import Derived.Laws.OwnMore
import Derived.Laws.BytesArg
import Derived.Deep.RegionHeld3
import Derived.BigQuiet
import Derived.Deep.RegionLaw
import Derived.Deep.QuietTactic
import Derived.Test.YtlgmocmekmppeaaProg
import Derived.Test.YtlgmocmekmppeaaDuA
set_option linter.unusedVariables false
set_option linter.unusedSimpArgs false
namespace Go.Proofs.Ytlgmocmekmppeaa
open Go Go.RowKit Go.Shelf

theorem info50 : (Try.prog.info? 50).map (fun i => (i.zero, i.size, i.bytes)) = some (some (.agg #[.int .i64 0, .int .i64 0]), 2, 16) := by kernel_rfl
theorem under74 : Try.prog.underlying 74 = some (.slice 50) := by kernel_rfl
def itV (x : Item) : Value := .agg #[.int .i64 x.1, .int .i64 x.2]

theorem ta50 (a b : Int) (w : World) : (Instr.typeAssert (.iface 50 (.agg #[.int .i64 a, .int .i64 b])) 20 50 false).run Try.prog w = .ok (.agg #[.int .i64 a, .int .i64 b]) w := by kernel_rfl

set_option maxRecDepth 100000 in
set_option maxHeartbeats 1000000 in
theorem ipush_any (base B : Nat) (a b : Int) (xs : List Item) (w : World) (D : Nat → Prop) (h : HS w base B D xs) (hmax : xs.length ≤ 1000000) (hB : base ≤ B) :
    Calls Try.prog 95 #[.pointer (some ⟨B, 0, none⟩), .iface 50 (.agg #[.int .i64 a, .int .i64 b])] w fun e w' => e = .returned (.tuple #[]) ∧ HS w' base B D (xs ++ [(a, b)]) ∧ KeepOn base D w w' := by
  obtain ⟨i0, hi, hz0, hz1, hz2⟩ := info_parts info50
  obtain ⟨v, hbx, hrow, hvD, hBD, hDs⟩ := h
  have HvD := Lib.hid hvD
  have HDs := Lib.hid hDs
  clear hvD hDs
  have hc := hbx.cell
  have hf := hbx.frozen
  have Hrow := Lib.hid hrow
  have Hbx := Lib.hid hbx
  have hta := ta50 a b
  have hc2 := (Boxed.alloc Hbx.out (.cells #[.int .i64 a, .int .i64 b] 50)).cell
  clear hrow hbx
  go_enter Try.func95, Try.ntmps95
  go_wp2
  go_region_law (refine step_append_lies _ rfl _ _ _ rfl base 50 i0 _ 2 16 under74 hi hz0 hz1 hz2 rfl (by decide) v xs.length (itC xs) rfl ((Hrow.out.alloc _).drew) ⟨w.heap.size, 0, none⟩ 1 1 [.int .i64 a, .int .i64 b] rfl rfl (World.news_of_block (cs := #[.int .i64 a, .int .i64 b]) (t := 50) (fr := (0, 0)) (heap_alloc_new w _)) (by simp [Value.oneCell']) (by decide) (by unfold maxLen; omega) (by omega) (by have := Hbx.out.lt; simp; omega) (w.heap.size + 1) (by simp) ?_; intro gg cap w1 hown1 hgrow hat hlt; have hbx1 : Boxed w1 B 78 v := Boxed.kept (W := (w.alloc (.cells #[.int .i64 a, .int .i64 b] 50)).drew) (Boxed.alloc Hbx.out _) hgrow (Boxed.not_row Hbx.out (by decide) Hrow.out); have c1 := hbx1.cell; have f1 := hbx1.frozen)
  all_goals
    go_end0
    have hbx1 : Boxed w1 B 78 v := Boxed.kept (W := (w.alloc (.cells #[.int .i64 a, .int .i64 b] 50)).drew) (Boxed.alloc Hbx.out _) hgrow (Boxed.not_row Hbx.out (by decide) Hrow.out)
    have hnb := hbx1.not_row (by decide) hown1
    have hB1 : KeepOn base D w w1 := ((KeepOn.alloc base D w _).trans (KeepOn.drew _ _ _)).grown hgrow (fun k hk => ⟨(Hrow.out.lt k hk).1, HvD.out k hk⟩)
    have hggD : ∀ r, (Value.slice (some ⟨gg, 0, none⟩) (xs.length + 1) cap).ownBlock = some r → ¬ D r := by
      intro r hr hD
      obtain rfl : gg = r := by simpa [Value.ownBlock] using hr
      rcases hat with h | h
      · exact HvD.out _ h hD
      · have := HDs.out _ hD; omega
    refine ⟨rfl, ⟨_, hbx1.set _, ?_, hggD, hBD, fun b hb => Nat.lt_of_lt_of_le (HDs.out b hb) (Nat.le_trans hB1.size (KeepsWalks.setCell w1 _ _).size)⟩, hB1.trans (KeepOn.setCell w1 B _ hB hBD)⟩
    have hr : w1.ownsRow base 50 2 (.slice (some ⟨gg, 0, none⟩) (xs.length + 1) cap) (xs.length + 1) (itC (xs ++ [(a, b)])) := by rw [itC_append]; exact hown1
    unfold IR
    rw [List.length_append]
    exact hr.kept (row := some B) (grownBy_setCell' w1 B _) (.inr hnb.symm)

set_option maxRecDepth 100000 in
set_option maxHeartbeats 400000 in
theorem len_any (A : Option Addr) (n c : Nat) (w : World) : Calls Try.prog 93 #[.slice A n c] w fun e w' => e = .returned (.int .i64 (n : Int)) ∧ w = w' := by
  go_enter Try.func93, Try.ntmps93
  go_wp2
  go_ret
  exact ⟨rfl, rfl⟩

set_option maxRecDepth 100000 in
set_option maxHeartbeats 1000000 in
/-- **heap.Push** -/
theorem hpush_any (base B : Nat) (a b : Int) (xs : List Item) (w : World) (D : Nat → Prop) (h : HS w base B D xs) (hmax : xs.length ≤ 100000) (hB : base ≤ B) :
    Calls Try.prog 49 #[hv B, .iface 50 (.agg #[.int .i64 a, .int .i64 b])] w fun e w' => e = .returned (.tuple #[]) ∧ HS w' base B D (upL xs.length (xs ++ [(a, b)]) xs.length) ∧ KeepOn base D w w' := by
  have hp := fun w => meth_push B w
  go_enter Try.func49, Try.ntmps49
  go_wp2_with fail
  refine (ipush_any base B a b xs w D h (by omega) hB).mono ?_
  rintro e w1 ⟨rfl, ⟨v, hbx, hrow, hvD, hBD, hDs⟩, hB1⟩
  have HvD := Lib.hid hvD
  have HDs := Lib.hid hDs
  clear hvD hDs
  obtain ⟨g, c, rfl⟩ : ∃ g c, v = .slice (some ⟨g, 0, none⟩) (xs ++ [(a, b)]).length c := by
    obtain ⟨g, c, e, _⟩ := World.ownsRow.form hrow (by simp)
    exact ⟨g, c, e⟩
  have hl : (xs ++ [(a, b)]).length = xs.length + 1 := by simp
  have hc := hbx.cell
  have Hbx := Lib.hid hbx
  have Hrow := Lib.hid hrow
  have m1 := fun (w : World) h => meth_len B (.slice (some ⟨g, 0, none⟩) (xs ++ [(a, b)]).length c) w h
  clear hbx hrow
  have Hl := Lib.hid hl
  clear hl
  go_wp2_with fail
  refine (len_any _ _ _ _).mono ?_
  rintro e w2 ⟨rfl, rfl⟩
  go_wp2_with fail
  refine (up_any base B _ xs.length (by simp) (xs ++ [(a, b)]) w1 D ⟨_, Hbx.out, Hrow.out, HvD.out, hBD, HDs.out⟩ (by simp) (by simp; omega) hB).mono ?_
  rintro e w2 ⟨rfl, hs, hB2⟩
  go_wp2
  go_end0
  exact ⟨rfl, hs, hB1.trans hB2⟩

/-- only draws lie between two worlds -/
def Drawn (w w' : World) : Prop := ∃ m, w' = w.drewN m
theorem Drawn.below {w w' : World} (h : Drawn w w') {B : Nat} {a : World} (hb : Below B a w) : Below B a w' := by obtain ⟨m, rfl⟩ := h; exact below_drewN hb m
theorem Drawn.keep {w w' : World} (h : Drawn w w') {n₀ : Nat} {D : Nat → Prop} {a : World} (hb : KeepOn n₀ D a w) : KeepOn n₀ D a w' := by obtain ⟨m, rfl⟩ := h; exact hb.drewN m
theorem Drawn.size {w w' : World} (h : Drawn w w') : w.heap.size ≤ w'.heap.size := by obtain ⟨m, rfl⟩ := h; exact Nat.le_refl _
theorem Drawn.row {w w' : World} (h : Drawn w w') {base : Nat} {v : Value} {xs : List Item} (hr : IR w base v xs) : IR w' base v xs := by obtain ⟨m, rfl⟩ := h; exact hr
theorem Drawn.box {w w' : World} (h : Drawn w w') {B : Nat} {t : TypeId} {v : Value} (hr : Boxed w B t v) : Boxed w' B t v := by obtain ⟨m, rfl⟩ := h; exact hr
theorem less_dr (base g c : Nat) (a b : Int) (i j : Nat) (ea : a = i) (eb : b = j) (xs : List Item) (w : World) (h : IR w base (.slice (some ⟨g, 0, none⟩) xs.length c) xs) (hi : i < xs.length) (hj : j < xs.length) (hmax : xs.length ≤ 1000000) :
    Calls Try.prog 91 #[.slice (some ⟨g, 0, none⟩) xs.length c, .int .i64 a, .int .i64 b] w fun e w' => e = .returned (.bool (ltI (it xs i) (it xs j))) ∧ Drawn w w' :=
  less_at base g c a b i j ea eb xs w h hi hj hmax

/-- down -/
def kidL (xs : List Item) (i n : Nat) : Nat := if 2 * i + 2 < n ∧ ltI (it xs (2 * i + 2)) (it xs (2 * i + 1)) = true then 2 * i + 2 else 2 * i + 1
def downL : Nat → List Item → Nat → Nat → List Item
  | 0, xs, _, _ => xs
  | f + 1, xs, i, n => if n ≤ 2 * i + 1 ∨ ltI (it xs (kidL xs i n)) (it xs i) = false then xs else downL f (swapL xs i (kidL xs i n)) (kidL xs i n) n
theorem downL_stop {f i n : Nat} {xs : List Item} (h : n ≤ 2 * i + 1 ∨ ltI (it xs (kidL xs i n)) (it xs i) = false) : downL f xs i n = xs := by
  cases f with
  | zero => rfl
  | succ f => rw [downL, if_pos h]
theorem kidL_lt {xs : List Item} {i n : Nat} (h : ¬ n ≤ 2 * i + 1) : kidL xs i n < n ∧ i < kidL xs i n := by
  unfold kidL; split <;> omega

set_option maxRecDepth 100000 in
set_option maxHeartbeats 2000000 in
theorem down_any (base B n : Nat) (a : Int) (ea : a = n) (xs : List Item) (w : World) (D : Nat → Prop) (h : HS w base B D xs) (hn : n < xs.length) (hmax : xs.length ≤ 100000) (hB : base ≤ B) :
    Calls Try.prog 56 #[hv B, .int .i64 0, .int .i64 a] w fun e w' => (∃ v, e = .returned v) ∧ HS w' base B D (downL n xs 0 n) ∧ KeepOn base D w w' := by
  subst ea
  obtain ⟨R, hR⟩ : ∃ R, downL n xs 0 n = R := ⟨_, rfl⟩
  rw [hR]
  go_enter Try.func56, Try.ntmps56
  go_wp2
  go_loopw [7, 8, 9, 10] (fun q _ _ _ wr => ∃ (f i : Nat) (xs : List Item), q = .int .i64 (i : Int) ∧ n ≤ f + i ∧ Hid (downL f xs i n = R) ∧ HS wr base B D xs ∧ n < xs.length ∧ i ≤ n ∧ xs.length ≤ 100000 ∧ KeepOn base D w wr) (fun q _ _ _ _ => n - (intOf q).toNat)
  case atStart => exact ⟨n, 0, xs, rfl, by omega, hR, h, hn, by omega, hmax, KeepOn.refl _ _ _⟩
  case round =>
    clear hR h
    obtain ⟨f, i, xs, rfl, hf, hR, ⟨v, hbx, hrow, hvD, hBD, hDs⟩, hn, hin, hmax, hBl⟩ := hrel
    have HvD := Lib.hid hvD
    have HDs := Lib.hid hDs
    clear hvD hDs
    have hc := hbx.cell
    obtain ⟨g, c, rfl⟩ : ∃ g c, v = .slice (some ⟨g, 0, none⟩) xs.length c := by
      obtain ⟨g, c, e, _⟩ := World.ownsRow.form hrow (by omega)
      exact ⟨g, c, e⟩
    have hBg := box_row hbx hrow
    have hgb : base ≤ g := (hrow.lt g rfl).1
    have m1 := fun (w : World) h => meth_less B (.slice (some ⟨g, 0, none⟩) xs.length c) w h
    have m2 := fun (w : World) h => meth_swap B (.slice (some ⟨g, 0, none⟩) xs.length c) w h
    have Hrow := Lib.hid hrow
    have Hbx := Lib.hid hbx
    clear hrow hbx
    by_cases hend : n ≤ 2 * i + 1
    · have hRx : Hid (xs = R) := by have := hR.out; rw [downL_stop (.inl hend)] at this; exact this
      go_wp2
      go_ret
      exact ⟨⟨_, rfl⟩, hRx.out ▸ ⟨_, Hbx.out, Hrow.out, HvD.out, hBD, HDs.out⟩, hBl⟩
    · by_cases h2 : 2 * i + 2 < n
      · go_wp2_with fail
        refine (less_dr base g c _ _ (2 * i + 2) (2 * i + 1) (by omega) (by omega) xs _ Hrow.out (by omega) (by omega) (by omega)).mono ?_
        rintro e w2 ⟨rfl, hd2⟩
        have hB2 := hd2.keep hBl
        have hDs2 := Lib.hid (fun b hb => Nat.lt_of_lt_of_le (HDs.out b hb) hd2.size)
        have Hr2 := Lib.hid (hd2.row Hrow.out)
        have Hb2 := Lib.hid (hd2.box Hbx.out)
        have hc2 := Boxed.cell Hb2.out
        clear hd2 hc
        have hc := hc2
        cases hl2 : ltI (it xs (2 * i + 2)) (it xs (2 * i + 1)) with
        | true =>
          have hk : Hid (kidL xs i n = 2 * i + 2) := by unfold Hid kidL; rw [if_pos ⟨h2, hl2⟩]
          clear hl2
          have hkl := kidL_lt (xs := xs) hend
          rw [hk.out] at hkl
          obtain ⟨hk1, hk2⟩ := hkl
          go_wp2_with fail
          refine (less_dr base g c _ _ (2 * i + 2) i (by omega) (by omega) xs _ Hr2.out (by omega) (by omega) (by omega)).mono ?_
          rintro e w3 ⟨rfl, hd3⟩
          have hB3 := hd3.keep hB2
          have hDs3 := Lib.hid (fun b hb => Nat.lt_of_lt_of_le (hDs2.out b hb) hd3.size)
          have Hr3 := Lib.hid (hd3.row Hr2.out)
          have Hb3 := Lib.hid (hd3.box Hb2.out)
          have hc3 := Boxed.cell Hb3.out
          clear hd3
          cases hlt : ltI (it xs (2 * i + 2)) (it xs i) with
          | false =>
            have hRx : Hid (xs = R) := by have := hR.out; rw [downL_stop (.inr (by rw [hk.out]; exact hlt))] at this; exact this
            clear hlt
            go_wp2
            go_ret
            exact ⟨⟨_, rfl⟩, hRx.out ▸ ⟨_, Hb3.out, Hr3.out, HvD.out, hBD, hDs3.out⟩, hB3⟩
          | true =>
            have Hlt := Lib.hid hlt
            clear hlt
            go_wp2_with fail
            refine (swap_at base g c _ _ i (2 * i + 2) (by omega) (by omega) xs _ Hr3.out (by omega) (by omega) (by omega)).mono ?_
            rintro e w4 ⟨rfl, hrow4, hg4⟩
            have hbx4 : Boxed w4 B 78 _ := Boxed.kept Hb3.out hg4 (by simpa using hBg)
            have hB4 := hB3.grown hg4 (fun k e => by cases e; exact ⟨hgb, HvD.out g rfl⟩)
            have Hr4 : Hid (IR w4 base (.slice (some ⟨g, 0, none⟩) xs.length c) (swapL xs i (2 * i + 2))) := hrow4
            have Hb4 := Lib.hid hbx4
            have hDs4 := Lib.hid (fun b hb => Nat.lt_of_lt_of_le (hDs3.out b hb) hg4.size)
            have hc4 := hbx4.cell
            clear hrow4 hbx4 hc hc3 m1 m2 hg4
            go_wp2
            go_roundw
            case rel =>
              obtain ⟨f', rfl⟩ : ∃ f', f = f' + 1 := ⟨f - 1, by omega⟩
              refine ⟨f', 2 * i + 2, swapL xs i (2 * i + 2), by go_num, by omega, ?_, ⟨_, Hb4.out, Hr4.out, HvD.out, hBD, hDs4.out⟩, by rw [swapL_len]; omega, by omega, by rw [swapL_len]; exact hmax, hB4⟩
              have := hR.out
              rw [downL, if_neg (by rw [hk.out]; simp; exact ⟨by omega, Hlt.out⟩), hk.out] at this
              exact this
            case measure => simp [intOf]; omega
        | false =>
          have hk : Hid (kidL xs i n = 2 * i + 1) := by unfold Hid kidL; rw [if_neg (by simp [hl2])]
          clear hl2
          have hkl := kidL_lt (xs := xs) hend
          rw [hk.out] at hkl
          obtain ⟨hk1, hk2⟩ := hkl
          go_wp2_with fail
          refine (less_dr base g c _ _ (2 * i + 1) i (by omega) (by omega) xs _ Hr2.out (by omega) (by omega) (by omega)).mono ?_
          rintro e w3 ⟨rfl, hd3⟩
          have hB3 := hd3.keep hB2
          have hDs3 := Lib.hid (fun b hb => Nat.lt_of_lt_of_le (hDs2.out b hb) hd3.size)
          have Hr3 := Lib.hid (hd3.row Hr2.out)
          have Hb3 := Lib.hid (hd3.box Hb2.out)
          have hc3 := Boxed.cell Hb3.out
          clear hd3
          cases hlt : ltI (it xs (2 * i + 1)) (it xs i) with
          | false =>
            have hRx : Hid (xs = R) := by have := hR.out; rw [downL_stop (.inr (by rw [hk.out]; exact hlt))] at this; exact this
            clear hlt
            go_wp2
            go_ret
            exact ⟨⟨_, rfl⟩, hRx.out ▸ ⟨_, Hb3.out, Hr3.out, HvD.out, hBD, hDs3.out⟩, hB3⟩
          | true =>
            have Hlt := Lib.hid hlt
            clear hlt
            go_wp2_with fail
            refine (swap_at base g c _ _ i (2 * i + 1) (by omega) (by omega) xs _ Hr3.out (by omega) (by omega) (by omega)).mono ?_
            rintro e w4 ⟨rfl, hrow4, hg4⟩
            have hbx4 : Boxed w4 B 78 _ := Boxed.kept Hb3.out hg4 (by simpa using hBg)
            have hB4 := hB3.grown hg4 (fun k e => by cases e; exact ⟨hgb, HvD.out g rfl⟩)
            have Hr4 : Hid (IR w4 base (.slice (some ⟨g, 0, none⟩) xs.length c) (swapL xs i (2 * i + 1))) := hrow4
            have Hb4 := Lib.hid hbx4
            have hDs4 := Lib.hid (fun b hb => Nat.lt_of_lt_of_le (hDs3.out b hb) hg4.size)
            have hc4 := hbx4.cell
            clear hrow4 hbx4 hc hc3 m1 m2 hg4
            go_wp2
            go_roundw
            case rel =>
              obtain ⟨f', rfl⟩ : ∃ f', f = f' + 1 := ⟨f - 1, by omega⟩
              refine ⟨f', 2 * i + 1, swapL xs i (2 * i + 1), by go_num, by omega, ?_, ⟨_, Hb4.out, Hr4.out, HvD.out, hBD, hDs4.out⟩, by rw [swapL_len]; omega, by omega, by rw [swapL_len]; exact hmax, hB4⟩
              have := hR.out
              rw [downL, if_neg (by rw [hk.out]; simp; exact ⟨by omega, Hlt.out⟩), hk.out] at this
              exact this
            case measure => simp [intOf]; omega
      · have hk : Hid (kidL xs i n = 2 * i + 1) := by unfold Hid kidL; rw [if_neg (by omega)]
        have hkl := kidL_lt (xs := xs) hend
        rw [hk.out] at hkl
        obtain ⟨hk1, hk2⟩ := hkl
        go_wp2_with fail
        refine (less_dr base g c _ _ (2 * i + 1) i (by omega) (by omega) xs _ Hrow.out (by omega) (by omega) (by omega)).mono ?_
        rintro e w3 ⟨rfl, hd3⟩
        have hB3 := hd3.keep hBl
        have hDs3 := Lib.hid (fun b hb => Nat.lt_of_lt_of_le (HDs.out b hb) hd3.size)
        have Hr3 := Lib.hid (hd3.row Hrow.out)
        have Hb3 := Lib.hid (hd3.box Hbx.out)
        have hc3 := Boxed.cell Hb3.out
        clear hd3
        cases hlt : ltI (it xs (2 * i + 1)) (it xs i) with
        | false =>
          have hRx : Hid (xs = R) := by have := hR.out; rw [downL_stop (.inr (by rw [hk.out]; exact hlt))] at this; exact this
          clear hlt
          go_wp2
          go_ret
          exact ⟨⟨_, rfl⟩, hRx.out ▸ ⟨_, Hb3.out, Hr3.out, HvD.out, hBD, hDs3.out⟩, hB3⟩
        | true =>
          have Hlt := Lib.hid hlt
          clear hlt
          go_wp2_with fail
          refine (swap_at base g c _ _ i (2 * i + 1) (by omega) (by omega) xs _ Hr3.out (by omega) (by omega) (by omega)).mono ?_
          rintro e w4 ⟨rfl, hrow4, hg4⟩
          have hbx4 : Boxed w4 B 78 _ := Boxed.kept Hb3.out hg4 (by simpa using hBg)
          have hB4 := hB3.grown hg4 (fun k e => by cases e; exact ⟨hgb, HvD.out g rfl⟩)
          have Hr4 : Hid (IR w4 base (.slice (some ⟨g, 0, none⟩) xs.length c) (swapL xs i (2 * i + 1))) := hrow4
          have Hb4 := Lib.hid hbx4
          have hDs4 := Lib.hid (fun b hb => Nat.lt_of_lt_of_le (hDs3.out b hb) hg4.size)
          have hc4 := hbx4.cell
          clear hrow4 hbx4 hc hc3 m1 m2 hg4
          go_wp2
          go_roundw
          case rel =>
            obtain ⟨f', rfl⟩ : ∃ f', f = f' + 1 := ⟨f - 1, by omega⟩
            refine ⟨f', 2 * i + 1, swapL xs i (2 * i + 1), by go_num, by omega, ?_, ⟨_, Hb4.out, Hr4.out, HvD.out, hBD, hDs4.out⟩, by rw [swapL_len]; omega, by omega, by rw [swapL_len]; exact hmax, hB4⟩
            have := hR.out
            rw [downL, if_neg (by rw [hk.out]; simp; exact ⟨by omega, Hlt.out⟩), hk.out] at this
            exact this
          case measure => simp [intOf]; omega
end Go.Proofs.Ytlgmocmekmppeaa

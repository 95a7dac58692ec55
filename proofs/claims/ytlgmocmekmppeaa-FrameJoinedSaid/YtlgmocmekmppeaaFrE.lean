/- slices.Backward, and a number of four bytes. -/
import Derived.RangeFuncNested
import Derived.RangeFuncBound
import Derived.RangeFuncCalls
import Derived.RangeFuncLeaves
import Derived.Shelf.Abstract
import Derived.Shelf.RegionOpen
import Derived.WalkKit
import Derived.OwnWalkIn
import Derived.TacticsInMore
import Derived.LoopNIn
import Derived.LoopIn
import Derived.Outline
import Derived.Lib.Hide
import Derived.IntWalk
import Derived.WalkLawsBesides
import Derived.WalkSpells
import Derived.Laws.BitsAllLaws
import Derived.Lib.ConvBytes
import Derived.Maps.AppendAt
import Derived.Lib.AppendStr
import Derived.Lib.SlBytesConst
import Derived.Laws.AppendOwnNone
import Derived.Laws.OwnMore
import Derived.Laws.BytesArg
import Derived.Deep.RegionHeld3
import Derived.BigQuiet
import Derived.Deep.QuietTactic
import Derived.Test.YtlgmocmekmppeaaProg
import Derived.Test.YtlgmocmekmppeaaFrC
import Derived.Test.YtlgmocmekmppeaaRange
set_option linter.unusedVariables false
set_option linter.unusedSimpArgs false
namespace Go.Proofs.Ytlgmocmekmppeaa
open Go Go.RowKit Go.Shelf
attribute [local go_sem] Oper.semAt_some

/-- what slices.Backward hands out -/
def backs (l : List UInt8) : List (Nat × Nat) := (List.range l.length).reverse.map fun i => (i, gb l i)
theorem backs_len (l : List UInt8) : (backs l).length = l.length := by simp [backs]
theorem backs_get (l : List UInt8) (m : Nat) (h : m < l.length) : (backs l)[l.length - (m + 1)]? = some (m, gb l m) := by
  unfold backs
  rw [List.getElem?_map, List.getElem?_reverse (by simp; omega)]
  simp only [List.length_range]
  rw [List.getElem?_range (by omega)]
  simp only [Option.map_some]
  rw [show l.length - 1 - (l.length - (m + 1)) = m by omega]
theorem backs_at {l : List UInt8} {k : Nat} {x : Nat × Nat} (h : (backs l)[k]? = some x) : k < l.length ∧ x = (l.length - 1 - k, gb l (l.length - 1 - k)) := by
  have hk : k < l.length := by have := (List.getElem?_eq_some_iff.1 h).1; rwa [backs_len] at this
  have := backs_get l (l.length - 1 - k) (by omega)
  rw [show l.length - (l.length - 1 - k + 1) = k by omega, h] at this
  exact ⟨hk, by cases this; rfl⟩
def encBack (x : Nat × Nat) : Array Value := #[.int .i64 (x.1 : Int), .int .u8 (x.2 : Int)]

theorem boxed_keepOn {n₀ : Nat} {D : Nat → Prop} {W W' : World} {B : Nat} {t : TypeId} {v : Value} (h : Boxed W B t v) (hk : KeepOn n₀ D W W') (hd : B < n₀ ∨ D B) : Boxed W' B t v :=
  (hk.block B h.lt hd).trans h

set_option maxRecDepth 100000 in
set_option maxHeartbeats 1000000 in
theorem backward1_seq (n₀ B : Nat) (v : Value) (l : List UInt8) (hlen : l.length ≤ 140737488351232) (w₀ w : World) (hw : w₀.heap.size = n₀) (hs : SB w₀ v l) (hbw : Below n₀ w₀ w) (hB : n₀ ≤ B) (hbox : Boxed w B 22 v) :
    SeqD Try.prog n₀ 65 #[.pointer (some ⟨B, 0, none⟩)] (fun x az _ _ => az = encBack x) (backs l) (fun b => b = B) w := by
  intro lp J Jx W D hDb hown hbel hn hJ hJx hY h0
  obtain ⟨hB1, hB2, hB3⟩ := hown B rfl
  have hboxW : Boxed W B 22 v := hB3.trans hbox
  have hcB := hboxW.cell
  have hbW : Below n₀ w₀ W := hbw.trans hbel
  obtain ⟨A, c, rfl, h1, h2, h3⟩ := hs.form
  refine callsIn_of_wp Try.func65 rfl trivial ?_ rfl
  simp only [Try.ntmps65, List.size_toArray, List.length_cons, List.length_nil, Nat.reduceAdd, Nat.reduceSub, Array.replicate_succ, Array.replicate_zero, List.push_toArray, List.append_toArray, List.nil_append, List.cons_append]
  gi_wp2
  gi_loopw [3] (fun i wr => ∃ (q : Int) (j : Nat) (D : Nat → Prop), i = .int .i64 q ∧ q = (j : Int) - 1 ∧ j ≤ l.length ∧ J (l.length - j) D wr ∧ (∀ b, D b → b < wr.heap.size) ∧ ¬ D B ∧ Boxed wr B 22 (.slice A l.length c) ∧ Below n₀ w₀ wr ∧ n₀ ≤ wr.heap.size) (fun i _ => (intOf i + 1).toNat)
  case atStart => exact ⟨_, l.length, D, rfl, rfl, Nat.le_refl _, by rw [Nat.sub_self]; exact h0, hDb, hB1, hboxW, hbW, hn⟩
  case round =>
    obtain ⟨q, j, D, rfl, hq, hj, hJk, hDb, hDB, hbx, hbe, hnn⟩ := hrel
    have hcB := hbx.cell
    cases j with
    | zero =>
      have hq1 : q < 0 := by omega
      have Hq := Lib.hid hq
      clear hq
      gi_wp2
      go_end0
      exact ⟨⟨_, rfl⟩, D, .inl (by rw [backs_len]; simpa using hJk)⟩
    | succ m =>
      have Hq := Lib.hid hq
      obtain rfl : q = (m : Int) := by omega
      clear hq
      obtain ⟨g, o, rfl, hc⟩ := h3 (by omega)
      have hcm := (hbe.cell (p := ⟨g, o + m, none⟩) (by rw [← hw]; exact World.block_lt_of_cell? _ _ (hc m (by omega)))).trans (hc m (by omega))
      have Hc := Lib.hid hc
      clear hc h3
      obtain ⟨fn, tmps, assign, body, hy, hR⟩ := hY (l.length - (m + 1)) (m, gb l m) _ D (fun b => b = B) wr (backs_get l m (by omega)) rfl hJk hDb (fun b h => by subst h; exact ⟨hbx.lt, hDB⟩)
      simp only [encBack] at hy
      gi_wp2
      refine ⟨rfl, hR.mono ?_⟩
      clear hy hR
      rintro e W3 ⟨D3, hD3, hk3, (⟨rfl, hJ3⟩ | ⟨rfl, hJ3⟩)⟩
      · have hn3 : n₀ ≤ W3.heap.size := Nat.le_trans hnn hk3.size
        have hbx3 := boxed_keepOn hbx hk3 (.inr rfl)
        have hDB3 : ¬ D3 B := fun h => (hD3 B h).2 rfl
        have hDb3 : ∀ b, D3 b → b < W3.heap.size := fun b h => (hD3 b h).1
        have hbe3 := hbe.trans (hk3.below hnn)
        clear hD3
        gi_wp2
        go_roundw
        case rel => exact ⟨_, m, D3, rfl, rfl, by omega, by rw [show l.length - m = l.length - (m + 1) + 1 by omega]; exact hJ3, hDb3, hDB3, hbx3, hbe3, hn3⟩
        case measure => simp [intOf]
      · gi_wp2
        refine bodyPost_ret (results_none rfl _ _ _) rfl ?_
        exact ⟨⟨_, rfl⟩, _, .inr ⟨_, hJ3⟩⟩

set_option maxRecDepth 100000 in
set_option maxHeartbeats 400000 in
theorem backward_any (A : Option Addr) (n c : Nat) (w : World) : Calls Try.prog 54 #[.slice A n c] w fun e w' => e = .returned (.func (.func 65) #[] #[.pointer (some ⟨w.heap.size, 0, none⟩)]) ∧ w.alloc (.cells #[.slice A n c] 22) = w' := by
  go_enter Try.func54, Try.ntmps54
  go_wp2
  go_ret
  exact ⟨rfl, rfl⟩

/-- four bytes as a number, the lowest ahead -/
def wordL (l : List UInt8) : Nat := gb l 0 + gb l 1 * 256 + gb l 2 * 65536 + gb l 3 * 16777216
def wpart (l : List UInt8) : Nat → Nat
  | 0 => 0
  | k + 1 => wpart l k * 256 + gb l (3 - k)
theorem gb_lt' (l : List UInt8) (k : Nat) : gb l k < 256 := by have := gb_lt l k; omega
theorem wpart_lt (l : List UInt8) : ∀ k, wpart l k < 256 ^ k
  | 0 => by simp [wpart]
  | k + 1 => by
    have h1 := wpart_lt l k
    have h2 := gb_lt' l (3 - k)
    rw [wpart, Nat.pow_succ]
    omega
theorem wpart_four (l : List UInt8) : wpart l 4 = wordL l := by simp [wpart, wordL]; omega
theorem gb_take (l : List UInt8) (n k : Nat) (h : k < n) : gb (l.take n) k = gb l k := by unfold gb; rw [List.getElem?_take_of_lt h]
theorem gb_drop (l : List UInt8) (n k : Nat) : gb (l.drop n) k = gb l (n + k) := by unfold gb; rw [List.getElem?_drop]

theorem SB.take {W : World} {A : Option Addr} {n c : Nat} {l : List UInt8} (h : SB W (.slice A n c) l) (m : Nat) (hm : m ≤ l.length) (h0 : 0 < c ∨ True) : SB W (.slice A m c) (l.take m) := by
  have hml : (l.take m).length = m := by simp; omega
  rcases h with ⟨he, rfl⟩ | ⟨ad, c', he, h1, h2, h3⟩
  · cases he
    obtain rfl : m = 0 := by simpa using hm
    exact .inl ⟨rfl, by simp⟩
  · cases he
    refine .inr ⟨ad, c, by rw [hml], by omega, h2, fun h0 => ?_⟩
    obtain ⟨g, o, rfl, hc⟩ := h3 (by omega)
    exact ⟨g, o, rfl, fun i hi => by rw [hc i (by omega), gb_take _ _ _ (by omega)]⟩

theorem or_shift {a b : Nat} (ha : a < 16777216) (hb : b < 256) : bits BinOp.or IntKind.u32 ((a : Int) * 256) (b : Int) = ((a * 256 + b : Nat) : Int) := by
  have e : (a : Int) * 256 = ((a * 256 : Nat) : Int) := by simp
  rw [e, u32_or_nat _ _ (by omega) (by omega)]
  have := Nat.shiftLeft_add_eq_or_of_lt (i := 8) (b := b) (by omega) a
  rw [Nat.shiftLeft_eq] at this
  rw [← this]

set_option maxRecDepth 100000 in
set_option maxHeartbeats 1000000 in
/-- **word** -/
theorem word_any (v : Value) (l : List UInt8) (w : World) (hlen : l.length ≤ 140737488351232) (h4 : 4 ≤ l.length) (h : SB w v l) :
    Calls Try.prog 44 #[v] w fun e w' => e = .returned (.int .u32 (wordL l : Nat)) ∧ Below w.heap.size w w' := by
  obtain ⟨A, c, rfl, h1, h2, -⟩ := h.form
  have ht := h.take 4 h4 (.inr trivial)
  have Ht := Lib.hid ht
  clear ht
  refine (callsIn_wide (n := 0)).1 ?_
  refine callsIn_of_wp_marks Try.func44 rfl trivial ?_
  simp only [Try.ntmps44, List.size_toArray, List.length_cons, List.length_nil, Nat.reduceAdd, Nat.reduceSub, Array.replicate_succ, Array.replicate_zero, List.push_toArray, List.append_toArray, List.nil_append, List.cons_append]
  gi_wp2_with fail
  refine ⟨trivial, rfl, (callsIn_wide.2 (backward_any _ _ _ _)).mono ?_⟩
  rintro e w1 ⟨rfl, rfl⟩
  gi_wp2_with fail
  have hb0 := Boxed.new w 25 (.int .u32 0)
  have hb1 := Boxed.new (w.alloc (.cells #[.int .u32 0] 25)) 22 (.slice A 4 c)
  rw [World.size_alloc] at hb1
  have hB0 : Below w.heap.size w ((w.alloc (.cells #[.int .u32 0] 25)).alloc (.cells #[.slice A 4 c] 22)) := ((Below.refl _ w).alloc (Nat.le_refl _) _).alloc (by simp) _
  have hl4 : (l.take 4).length = 4 := by simp; omega
  refine wpIn_rangeFunc_D (gf := 65) (lb := #[.pointer (some ⟨w.heap.size + 1, 0, none⟩)]) (n₀ := w.heap.size) rfl (enters_of Try.func65 (by kernel_rfl) rfl)
    (backward1_seq w.heap.size (w.heap.size + 1) (.slice A 4 c) (l.take 4) (by omega) w _ rfl Ht.out hB0 (by omega) hb1) (fun x az _ _ h => by rw [h]; rfl) (fun _ _ _ _ _ _ _ _ _ h _ _ => h) (by simp; omega) (Below.refl _ _)
    (fun b => b = w.heap.size) (fun b h => by subst h; simp; omega) (fun b h => by subst h; exact ⟨by omega, by simp, rfl⟩)
    (fun k D W => Boxed W w.heap.size 25 (.int .u32 (wpart l k : Nat)) ∧ D w.heap.size ∧ Below w.heap.size w W ∧ w.heap.size ≤ W.heap.size)
    (fun _ _ _ _ => False) ?stable (fun c k D W W' h _ => h) ⟨hb0.alloc _, rfl, hB0, by simp; omega⟩
    (fun az => { tmps := #[.slice A l.length c, undef, .int .u32 0, .pointer (some ⟨w.heap.size, 0, none⟩), undef, az[1]?.getD undef, .slice A l.length c, .slice A 4 c, .func (.func 65) #[] #[.pointer (some ⟨w.heap.size + 1, 0, none⟩)], az[0]?.getD undef, az[1]?.getD undef, undef, undef, undef, undef, undef, undef], defers := [] }) ?assign ?body ?done ?stop
  case stable =>
    rintro k D W W' ⟨hb, hD, hB, hs⟩ hk
    exact ⟨boxed_keepOn hb hk (.inr hD), hD, hB.trans (hk.below hs), Nat.le_trans hs hk.size⟩
  case assign =>
    rintro lp x az M W K rfl hK
    simp only [encBack] at hK ⊢
    gi_wp2
    exact hK
  case body =>
    rintro lp k x az D M W hx rfl ⟨hb, hD, hB, hs⟩ hDb hMD
    have hc := hb.cell
    have hf := hb.frozen
    obtain ⟨hk4, hx⟩ := backs_at hx
    rw [hl4] at hk4 hx
    obtain rfl : x = (3 - k, gb l (3 - k)) := by rw [hx, gb_take _ _ _ (by omega)]
    have hg := gb_lt l (3 - k)
    have hwl : wpart l k < 16777216 := by
      have h1 := wpart_lt l k
      have h2 : 256 ^ k ≤ 256 ^ 3 := Nat.pow_le_pow_right (by omega) (by omega)
      omega
    have hst : bits BinOp.or IntKind.u32 ((wpart l k : Nat) * 256) (gb l (3 - k) : Nat) = ((wpart l (k + 1) : Nat) : Int) := or_shift hwl (gb_lt' l _)
    clear hx
    have Hst := Lib.hid hst
    clear hst
    have HD := Lib.hid hMD
    have HDb := Lib.hid hDb
    clear hMD hDb
    simp only [encBack]
    gi_wp2
    rw [Hst.out]
    exact ⟨D, fun b h => ⟨Nat.lt_of_lt_of_le (HDb.out b h) (KeepsWalks.setCell W _ _).size, fun hm => (HD.out b hm).2 h⟩, KeepOn.setCell W _ _ (Nat.le_refl _) (fun h => (HD.out _ h).2 hD), hb.set _, hD, hB.setCell (p := ⟨w.heap.size, 0, none⟩) (Nat.le_refl _) _, Nat.le_trans hs (KeepsWalks.setCell W _ _).size⟩
  case done =>
    rintro dk D W hdk ⟨hb, hD, hB, hs⟩ hK hDk
    have hc := hb.cell
    gi_wp2
    refine ⟨by simp, .inl ⟨_, _, rfl, run_takeDeferred hK, ?_⟩⟩
    refine ⟨_, results_tmp rfl _ _ _, ?_, ?_⟩
    · rw [show (backs (l.take 4)).length = 4 by rw [backs_len, hl4], wpart_four]; rfl
    · exact hB.trans (belowK_b (w := w) (Nat.le_refl _) W dk _ _ (by simp at hdk; omega) hK rfl rfl)
  case stop =>
    rintro dk c k D W _ h _ _
    exact h.elim
end Go.Proofs.Ytlgmocmekmppeaa

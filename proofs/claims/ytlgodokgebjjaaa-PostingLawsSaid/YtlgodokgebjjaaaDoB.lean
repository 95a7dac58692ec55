/- slices.Concat of two; Close, and the reference's. -/
import Derived.RangeFuncNested
import Derived.RangeFuncBound
import Derived.RangeFuncCalls
import Derived.RangeFuncLeaves
import Derived.Shelf.Abstract
import Derived.Shelf.RegionOpen
import Derived.WalkKit
import Derived.OwnWalkIn
import Derived.TacticsInMore
import Derived.LoopNIn
import Derived.LoopIn
import Derived.Outline
import Derived.Lib.Hide
import Derived.Lib.SliceRun
import Derived.IntWalk
import Derived.WalkLawsBesides
import Derived.WalkSpells
import Derived.Laws.BitsAllLaws
import Derived.Lib.ConvBytes
import Derived.Maps.AppendAt
import Derived.Lib.AppendStr
import Derived.Lib.SlBytesConst
import Derived.Laws.AppendOwnNone
import Derived.Laws.OwnMore
import Derived.Laws.BytesArg
import Derived.Deep.RegionHeld3
import Derived.BigQuiet
import Derived.Deep.RegionLaw
import Derived.Deep.QuietTactic
import Derived.Lib.OthersKept
import Derived.Test.YtlgodokgebjjaaaProg
import Derived.Deep.DeepFit
import Derived.Lib.AppendZerosOnto
import Derived.Test.YtlgodokgebjjaaaDoA
set_option linter.unusedVariables false
set_option linter.unusedSimpArgs false
namespace Go.Proofs.Ytlgodokgebjjaaa
open Go Go.RowKit Go.Shelf

/-- a row of memory that holds these values -/
def Row (W : World) (b : Nat) (t : TypeId) (l : List Value) : Prop := W.heap[b]? = some (.cells l.toArray t (0, 0))
theorem Row.lt {W : World} {b : Nat} {t : TypeId} {l : List Value} (h : Row W b t l) : b < W.heap.size := (Array.getElem?_eq_some_iff.1 h).1
theorem Row.cell {W : World} {b : Nat} {t : TypeId} {l : List Value} (h : Row W b t l) (i : Nat) : W.cell? ⟨b, i, none⟩ = l[i]? := by
  rw [cell_of_row W b i _ t _ h]; simp
theorem Row.frozen {W : World} {b : Nat} {t : TypeId} {l : List Value} (h : Row W b t l) (i : Nat) : W.frozen? ⟨b, i, none⟩ = false := frozen_of_row W b i _ t h
theorem Row.set {W : World} {b : Nat} {t : TypeId} {l : List Value} (h : Row W b t l) (i : Nat) (v : Value) : Row (W.setCell ⟨b, i, none⟩ v) b t (l.set i v) := by
  unfold Row
  rw [heap_setCell_same W b i _ t v h]
  congr 2
  simp
theorem Row.other {W : World} {b : Nat} {t : TypeId} {l : List Value} (h : Row W b t l) (a : Addr) (v : Value) (hb : b ≠ a.block) : Row (W.setCell a v) b t l := by
  unfold Row; rw [heap_setCell_other W a b v hb]; exact h
theorem Row.new (W : World) (c : Array Value) (t : TypeId) : Row (W.alloc (.cells c t)) W.heap.size t c.toList := by
  unfold Row; rw [heap_alloc_new]
theorem Row.alloc {W : World} {b : Nat} {t : TypeId} {l : List Value} (h : Row W b t l) (o : Obj) : Row (W.alloc o) b t l := by
  unfold Row; rw [heap_alloc_old _ _ _ h.lt]; exact h
theorem Row.below {W W' : World} {b n : Nat} {t : TypeId} {l : List Value} (h : Row W b t l) (hb : Below n W W') (hn : b < n) : Row W' b t l := by
  unfold Row; rw [hb.block b hn]; exact h
theorem Row.belowS {W W' : World} {b : Nat} {t : TypeId} {l : List Value} (h : Row W b t l) (hb : Below W.heap.size W W') : Row W' b t l := h.below hb h.lt

structure Mine (A : Nat) (a w : World) : Prop where
  le : A ≤ w.heap.size
  bel : Below A a w
theorem Mine.call {A : Nat} {a w w' : World} (hb : Below w.heap.size w w') (h : Mine A a w) : Mine A a w' := ⟨Nat.le_trans h.le hb.size, h.bel.trans (hb.mono h.le)⟩
theorem Mine.alloc {A : Nat} {a w : World} (h : Mine A a w) (o : Obj) : Mine A a (w.alloc o) := ⟨by show A ≤ (w.heap.push o).size; have := h.le; simp; omega, h.bel.alloc h.le o⟩
theorem Mine.drew {A : Nat} {a w : World} (h : Mine A a w) : Mine A a w.drew := ⟨h.le, h.bel.drew⟩
theorem Mine.put {A : Nat} {a w : World} (h : Mine A a w) (p : Addr) (v : Value) (hb : A ≤ p.block) : Mine A a (w.setCell p v) := ⟨by have := h.le; simp [World.setCell]; omega, h.bel.setCell hb v⟩
theorem Mine.refl (w : World) : Mine w.heap.size w w := ⟨Nat.le_refl _, Below.refl _ _⟩
theorem Row.cell0 {W : World} {b : Nat} {t : TypeId} {x : Value} {l : List Value} (h : Row W b t (x :: l)) : W.cell? ⟨b, 0, none⟩ = some x := h.cell 0
theorem Row.cell1 {W : World} {b : Nat} {t : TypeId} {x y : Value} {l : List Value} (h : Row W b t (x :: y :: l)) : W.cell? ⟨b, 1, none⟩ = some y := h.cell 1
theorem bgrow_append (w : World) (ty : TypeId) (k : Nat) (h0 : 0 < k) (hk : k ≤ 1000000) :
    ∃ c w', (Builtin.append_ #[22, 3] ty #[.slice none 0 0, .int .i64 (k : Int)]).run Try.prog w = .ok (.slice (some ⟨w.heap.size, 0, none⟩) k c) w' ∧ OB w' w.heap.size (.slice (some ⟨w.heap.size, 0, none⟩) 0 c) [] ∧ Below w.heap.size w w' ∧ c ≤ 9223372036854775807 := by
  obtain ⟨i0, hi, hz0, hz1, hz2⟩ := info_parts info5
  have hold : (Builtin.firstCells i0.size 0 (.slice none 0 0)).run Try.prog w.drew = .ok ([] : List Value).toArray w.drew := by
    simp [Builtin.firstCells]
  have hr := Lib.run_append_grow_zeros (P := Try.prog) w 22 3 ty 5 i0 _ .i64 .i64 Try.underlying22 Try.underlying3 hi hz0 none 0 0 [] hold k (by omega) (by omega) (by omega) (by omega) (by rw [hz2]; omega) (by rw [hz2]; exact growslice_fits (by omega) (by omega))
  have hge := grownCap_ge w (0 + k) 0 5
  have hcm : grownCap w (0 + k) 0 5 ≤ maxLen := grownCap_le_maxLen w _ _ _ (by unfold maxLen; omega)
  rw [Nat.zero_add] at hr hge hcm
  refine ⟨_, _, hr, ⟨rfl, .inr ⟨w.heap.size, _, _, rfl, Nat.le_refl _, heap_alloc_new w.drew _, Nat.zero_le _, hcm, ?_, by simp [enc8]⟩⟩, (Below.refl _ w).drew.alloc (Nat.le_refl _) _, by unfold maxLen at hcm; exact hcm⟩
  simp only [Value.cells, Array.size_append, List.size_toArray, List.length_nil, size_zeroCells, List.length_cons]
  omega
theorem wpGB_append {w : World} {ops : Array Oper} {rest : List Oper} {o : Oper} {a : Act} {Q : Exit → Act → World → Prop} (hgd : o.guard = none) (s x : Operand)
    (ho : o.op = .call { callee := .builtin .append, args := #[s, x], argTypes := #[22, 3] }) (k : Nat) (hs : a.eval s = .slice none 0 0) (hx : a.eval x = .int .i64 (k : Int)) (h0 : 0 < k) (hk : k ≤ 1000000)
    (h : ∀ c w', OB w' w.heap.size (.slice (some ⟨w.heap.size, 0, none⟩) 0 c) [] → Below w.heap.size w w' → c ≤ 9223372036854775807 → wpList Try.prog ops Q rest (a.put o.dst (.slice (some ⟨w.heap.size, 0, none⟩) k c)) w') : wpList Try.prog ops Q (o :: rest) a w := by
  refine wpList_plain hgd fun K hK => ?_
  obtain ⟨c, w', hrun, h1, h2, h3⟩ := bgrow_append w o.type k h0 hk
  unfold Oper.wp
  simp [execOp, ho, resolve, invoke, builtin, hs, hx, hrun, Result.andThen]
  exact hK _ _ (h c w' h1 h2 h3)
set_option maxHeartbeats 1000000 in
set_option maxRecDepth 100000 in
theorem bgrow_any (k : Nat) (hk : k ≤ 1000000) (w : World) :
    Calls Try.prog 127 #[.slice none 0 0, .int .i64 (k : Int)] w fun e w' => ∃ u, e = .returned u ∧ OB w' w.heap.size u [] ∧ Below w.heap.size w w' := by
  have g1 : ¬ (k : Int) < 0 := by omega
  have g1' : decide ((k : Int) < 0) = false := decide_eq_false g1
  have x1 : IntKind.i64.wrap (k : Int) = (k : Int) := IntWalk.i64_in _ (by omega)
  have ka := fun w => slice_runh none 0 0 0 (by omega) 0 rfl w
  by_cases h0 : 0 < k
  · have g2 : (0 : Int) < (k : Int) := by omega
    have g3 : decide ((0 : Int) < (k : Int)) = true := decide_eq_true g2
    have g4 : decide (0 < k) = true := decide_eq_true h0
    go_enter Try.func127, Try.ntmps127
    go_wp2_with (at_builtin; refine wpGB_append rfl _ _ rfl k rfl rfl h0 hk ?_)
    intro c w1 ho hb hc
    have HO := Lib.hid ho
    have HB := Lib.hid hb
    have kb := fun w => slice_runh (some ⟨w.heap.size, 0, none⟩) k c 0 (by omega) 0 rfl w
    clear ho hb
    have kc : ∀ W, (Instr.slice 22 (.slice (some ⟨w.heap.size, 0, none⟩) k c) none (some (.int .i64 0)) none).run Try.prog W = .ok (.slice (some ⟨w.heap.size, 0, none⟩) 0 c) W := fun W => slice_runh (some ⟨w.heap.size, 0, none⟩) k c 0 (by omega) 0 rfl W
    clear kb
    go_wp2
    go_ret
    exact ⟨_, rfl, HO.out, HB.out⟩
  · obtain rfl : k = 0 := by omega
    go_enter Try.func127, Try.ntmps127
    go_wp2
    go_ret
    exact ⟨_, rfl, World.ownsRow_nil _ _ _ _, Below.refl _ _⟩
theorem Mine.callN {A n : Nat} {a w w' : World} (hb : Below n w w') (h : Mine A a w) (hn : A ≤ n) : Mine A a w' := ⟨Nat.le_trans h.le hb.size, h.bel.trans (hb.mono hn)⟩
set_option maxHeartbeats 2000000 in
set_option maxRecDepth 100000 in
/-- **slices.Concat**, of two -/
theorem bconcat_any (G : Nat) (s1 s2 : Value) (xs ys : List UInt8) (w : World) (t : TypeId) (h : Row w G t [s1, s2]) (h1 : SB w s1 xs) (h2 : SB w s2 ys) (hmax : xs.length + ys.length ≤ 1000000) :
    Calls Try.prog 103 #[.slice (some ⟨G, 0, none⟩) 2 2] w fun e w' => ∃ u, e = .returned u ∧ OB w' w.heap.size u (xs ++ ys) ∧ Below w.heap.size w w' := by
  have h10 := h1
  have h20 := h2
  obtain ⟨A1, c1, rfl, -, -, -⟩ := h1.form
  obtain ⟨A2, c2, rfl, -, -, -⟩ := h2.form
  clear h1 h2
  obtain ⟨n1, hn1⟩ : ∃ n, xs.length = n := ⟨_, rfl⟩
  obtain ⟨n2, hn2⟩ : ∃ n, ys.length = n := ⟨_, rfl⟩
  rw [hn1] at h10 h hmax
  rw [hn2] at h20 h hmax
  have c0 := h.cell0
  have c1' := h.cell1
  obtain ⟨B0, hB0⟩ : ∃ B0, w.heap.size = B0 := ⟨_, rfl⟩
  have HX := Lib.hid h10
  have HY := Lib.hid h20
  have HR := Lib.hid h
  have HN1 := Lib.hid hn1
  have HN2 := Lib.hid hn2
  have z0 : IntKind.i64.wrap 0 = 0 := by decide
  have z1 : IntKind.i64.wrap (n1 : Int) = (n1 : Int) := IntWalk.i64_in _ (by omega)
  have z2 : IntKind.i64.wrap ((n1 : Int) + (n2 : Int)) = (n1 : Int) + (n2 : Int) := IntWalk.i64_in _ (by omega)
  have t1 : decide ((n1 : Int) < 0) = false := decide_eq_false (by omega)
  have t2 : decide ((n1 : Int) + (n2 : Int) < 0) = false := decide_eq_false (by omega)
  have t1' : ¬ ((n1 : Int) < 0) := by omega
  have t2' : ¬ ((n1 : Int) + (n2 : Int) < 0) := by omega
  clear h10 h20 h hn1 hn2
  go_enter Try.func103, Try.ntmps103
  go_wp2
  go_loop [3, 11] (fun x q => (q = .int .i64 0 ∧ x = .int .i64 0) ∨ (q = .int .i64 1 ∧ x = .int .i64 (n1 : Int)) ∨ (q = .int .i64 2 ∧ x = .int .i64 ((n1 : Int) + (n2 : Int)))) (fun _ q => 2 - (intOf q).toNat)
  case atStart => exact .inl ⟨rfl, rfl⟩
  case round =>
    rcases hrel with ⟨rfl, rfl⟩ | ⟨rfl, rfl⟩ | ⟨rfl, rfl⟩
    · go_wp2
      go_round
      case rel => exact .inr (.inl ⟨rfl, by go_num⟩)
      case measure => simp [intOf]
    · go_wp2
      go_round
      case rel => exact .inr (.inr ⟨rfl, by go_num⟩)
      case measure => simp [intOf]
    · have hgr := bgrow_any (n1 + n2) (by omega) w
      rw [show ((n1 + n2 : Nat) : Int) = (n1 : Int) + (n2 : Int) by omega] at hgr
      go_wp2_with fail
      refine hgr.mono ?_
      rintro e w1 ⟨b0, rfl, ho, hb⟩
      have HO := Lib.hid ho
      have HB := Lib.hid hb
      clear ho hb hgr
      rw [hB0] at HO HB
      go_wp2
      go_loopw [6, 27] (fun b q wr => ((q = .int .i64 0 ∧ OB wr B0 b []) ∨ (q = .int .i64 1 ∧ OB wr B0 b xs) ∨ (q = .int .i64 2 ∧ OB wr B0 b (xs ++ ys))) ∧ Mine B0 w wr) (fun _ q _ => 2 - (intOf q).toNat)
      case atStart => exact ⟨.inl ⟨rfl, HO.out⟩, ⟨by have := HB.out.size; omega, HB.out⟩⟩
      case round =>
        clear HO HB c0 c1'
        obtain ⟨hq, hm⟩ := hrel
        have hbe := hm.bel
        rw [← hB0] at hbe
        have c0 := (HR.out.belowS hbe).cell0
        have c1' := (HR.out.belowS hbe).cell1
        have hx := HX.out.below hbe
        have hy := HY.out.below hbe
        have HX1 := Lib.hid hx
        have HY1 := Lib.hid hy
        have HM := Lib.hid hm
        clear hbe hx hy hm
        rcases hq with ⟨rfl, hown⟩ | ⟨rfl, hown⟩ | ⟨rfl, hown⟩
        · have Hown := Lib.hid hown
          clear hown
          go_wp2_with (at_builtin; refine wpB_append rfl _ _ rfl B0 _ _ [] xs rfl Hown.out rfl HX1.out (by have := HN1.out; simp; omega) HM.out.le ?_)
          intro v' w1 hown' hgrow hbel
          have HO := Lib.hid hown'
          have HM1 := Lib.hid (HM.out.callN hbel (Nat.le_refl B0))
          clear hown' hgrow hbel Hown HM
          go_wp2
          go_roundw
          case rel => exact ⟨.inr (.inl ⟨rfl, HO.out⟩), HM1.out⟩
          case measure => simp [intOf]
        · have Hown := Lib.hid hown
          clear hown
          go_wp2_with (at_builtin; refine wpB_append rfl _ _ rfl B0 _ _ xs ys rfl Hown.out rfl HY1.out (by have := HN1.out; have := HN2.out; omega) HM.out.le ?_)
          intro v' w1 hown' hgrow hbel
          have HO := Lib.hid hown'
          have HM1 := Lib.hid (HM.out.callN hbel (Nat.le_refl B0))
          clear hown' hgrow hbel Hown HM
          go_wp2
          go_roundw
          case rel => exact ⟨.inr (.inr ⟨rfl, HO.out⟩), HM1.out⟩
          case measure => simp [intOf]
        · have HO := Lib.hid hown
          have HB := Lib.hid HM.out.bel
          clear hown HM
          go_wp2
          go_ret
          exact ⟨_, rfl, by rw [hB0]; exact HO.out, by rw [hB0]; exact HB.out⟩

theorem alloc_size (w : World) (o : Obj) : (w.alloc o).heap.size = w.heap.size + 1 := by show (w.heap.push _).size = _; simp
set_option maxHeartbeats 2000000 in
set_option maxRecDepth 100000 in
/-- **Close** -/
theorem close_any (v : Value) (l : List UInt8) (w : World) (hlen : l.length ≤ 900000) (h : SB w v l) :
    Calls Try.prog 70 #[v] w fun e w' => ∃ u, e = .returned u ∧ OB w' w.heap.size u (closeL l) ∧ Below w.heap.size w w' := by
  obtain ⟨A, c, rfl, -, -, -⟩ := h.form
  have kc := fun (w : World) (C : Array Value) (n c : Nat) => Lib.run_convert_bytes_const (P := Try.prog) w 22 5 C n c Try.underlying22 Try.underlying5
  have hw := whole_any _ l w h
  obtain ⟨b, hb⟩ : ∃ b, wholeB l = b := ⟨_, rfl⟩
  obtain ⟨L, hL⟩ : ∃ L, l.length = L := ⟨_, rfl⟩
  unfold closeL
  rw [hb] at hw ⊢
  have HW := Lib.hid hw
  have HS := Lib.hid h
  have HL := Lib.hid hL
  rw [hL] at hlen HW HS ⊢
  clear hw h hb hL
  cases b with
  | true =>
    rw [if_pos rfl]
    go_enter Try.func70, Try.ntmps70
    go_wp2_with fail
    refine HW.out.mono ?_
    rintro e w1 ⟨rfl, hb1⟩
    go_wp2_with fail
    refine (clone_any _ l w1 (by rw [HL.out]; omega) (HS.out.below hb1)).mono ?_
    rintro e w2 ⟨u, rfl, ho, hb2⟩
    have HO := Lib.hid (OB.mono ho hb1.size)
    have HB := Lib.hid (hb1.trans (hb2.mono hb1.size))
    clear ho hb2 hb1
    go_wp2
    go_ret
    exact ⟨_, rfl, HO.out, HB.out⟩
  | false =>
    rw [if_neg (by decide)]
    go_enter Try.func70, Try.ntmps70
    go_wp2_with fail
    refine HW.out.mono ?_
    rintro e w1 ⟨rfl, hb1⟩
    have hS1 := HS.out.below hb1
    have HB1 := Lib.hid hb1
    have HS1 := Lib.hid hS1
    clear hb1 hS1
    go_wp2_with fail
    have hba : Below w1.heap.size w1 (w1.alloc (.cells #[.int .u8 13, .int .u8 10] 5 (2, 3))) := (Below.refl _ _).alloc (Nat.le_refl _) _
    have hE := SB_end w1 (2, 3)
    have hs2 : (w1.alloc (.cells #[.int .u8 13, .int .u8 10] 5 (2, 3))).heap.size = w1.heap.size + 1 := alloc_size _ _
    have hS2 := HS1.out.below hba
    obtain ⟨w2, hw2⟩ : ∃ w2, w1.alloc (.cells #[.int .u8 13, .int .u8 10] 5 (2, 3)) = w2 := ⟨_, rfl⟩
    rw [hw2] at hba hE hs2 hS2 ⊢
    obtain ⟨G, hG⟩ : ∃ G, w1.heap.size + 1 = G := ⟨_, rfl⟩
    rw [hG] at hs2 ⊢
    have hR := Row.new w2 #[.slice A L c, .slice (some ⟨w1.heap.size, 0, none⟩) 2 2] 22
    have hb3 : Below w2.heap.size w2 (w2.alloc (.cells #[.slice A L c, .slice (some ⟨w1.heap.size, 0, none⟩) 2 2] 22)) := (Below.refl _ _).alloc (Nat.le_refl _) _
    have hcc := bconcat_any G _ _ l [13, 10] _ 22 (by rw [← hs2]; exact hR) (hS2.below hb3) (hE.below hb3) (by rw [HL.out]; simp; omega)
    refine hcc.mono ?_
    rintro e w3 ⟨u, rfl, ho, hb4⟩
    have hle : w.heap.size ≤ w2.heap.size := by rw [hs2, ← hG]; have := HB1.out.size; omega
    have hbb : Below w.heap.size w w3 := ((HB1.out.trans (hba.mono HB1.out.size)).trans (hb3.mono hle)).trans (hb4.mono (Nat.le_trans hle hb3.size))
    have HO := Lib.hid (OB.mono ho (Nat.le_trans hle hb3.size))
    have HB := Lib.hid hbb
    clear ho hb4 hbb hcc hb3 hR hE hS2 hba hw2 hG hs2 hle
    go_wp2
    go_ret
    exact ⟨_, rfl, HO.out, HB.out⟩
set_option maxHeartbeats 2000000 in
set_option maxRecDepth 100000 in
/-- **the reference's Close** -/
theorem qclose_any (v : Value) (l : List UInt8) (w : World) (hlen : l.length ≤ 900000) (h : SB w v l) :
    Calls Try.prog 48 #[v] w fun e w' => ∃ u, e = .returned u ∧ OB w' w.heap.size u (closeL l) ∧ Below w.heap.size w w' := by
  have h' := Lib.hid h
  obtain ⟨A, c, rfl, -, -, -⟩ := h.form
  obtain ⟨b, hb⟩ : ∃ b, wholeB l = b := ⟨_, rfl⟩
  have hw := fun w' hb' => qwhole_any _ l w' (h.below (W' := w') hb')
  unfold closeL
  rw [hb] at ⊢
  simp only [hb] at hw
  have HW := Lib.hid hw
  have HLn := Lib.hid hlen
  obtain ⟨L, hL⟩ : ∃ L, l.length = L := ⟨_, rfl⟩
  rw [hL] at h' HW ⊢
  have HL := Lib.hid hL
  clear hw h hb hL
  go_enter Try.func48, Try.ntmps48
  go_wp2_with (refine wpB_append rfl _ _ rfl w.heap.size _ _ [] l rfl (World.ownsRow_nil _ _ _ _) rfl h'.out (by have := HLn.out; simp; omega) (Nat.le_refl _) ?_)
  intro v1 w1 hown1 _ hB1
  have HO1 := Lib.hid hown1
  have HB1 := Lib.hid hB1
  obtain ⟨A1, c1, rfl, -, -, -⟩ := hown1.reads.form
  clear hown1 hB1
  cases b with
  | true =>
    go_wp2_with fail
    refine (HW.out _ HB1.out).mono ?_
    rintro e w2 ⟨rfl, rfl⟩
    go_wp2
    go_ret
    exact ⟨_, rfl, HO1.out, HB1.out⟩
  | false =>
    go_wp2_with fail
    refine (HW.out _ HB1.out).mono ?_
    rintro e w2 ⟨rfl, rfl⟩
    have hba : Below w1.heap.size w1 (w1.alloc (.cells #[.int .u8 13, .int .u8 10] 5)) := (Below.refl _ _).alloc (Nat.le_refl _) _
    have ho2 := HO1.out.below hba
    have he := (OB_lit w1 #[.int .u8 13, .int .u8 10] [13, 10] (by simp) rfl).reads
    have HO2 := Lib.hid ho2
    have HE := Lib.hid he
    have HBA := Lib.hid hba
    clear hba ho2 he
    go_wp2_with (at_builtin; refine wpB_append rfl _ _ rfl w.heap.size _ _ l [13, 10] rfl HO2.out rfl HE.out (by have := HLn.out; simp; omega) (Nat.le_trans HB1.out.size HBA.out.size) ?_)
    intro v2 w2 hown2 _ hB2
    have HO3 := Lib.hid hown2
    have HB3 := Lib.hid ((HB1.out.trans (HBA.out.mono HB1.out.size)).trans hB2)
    clear hown2 hB2
    go_wp2
    go_ret
    exact ⟨_, rfl, by first | exact HO3.out | (rw [if_neg (by decide)]; exact HO3.out), HB3.out⟩
end Go.Proofs.Ytlgodokgebjjaaa

/- slices.Concat of two; Lift. -/
import Derived.RangeFuncNested
import Derived.RangeFuncBound
import Derived.RangeFuncCalls
import Derived.RangeFuncLeaves
import Derived.Shelf.Abstract
import Derived.Shelf.RegionOpen
import Derived.WalkKit
import Derived.OwnWalkIn
import Derived.TacticsInMore
import Derived.LoopNIn
import Derived.LoopIn
import Derived.Outline
import Derived.Lib.Hide
import Derived.Lib.SliceRun
import Derived.IntWalk
import Derived.WalkLawsBesides
import Derived.WalkSpells
import Derived.Laws.BitsAllLaws
import Derived.Lib.ConvBytes
import Derived.Maps.AppendAt
import Derived.Lib.AppendStr
import Derived.Lib.SlBytesConst
import Derived.Laws.AppendOwnNone
import Derived.Laws.OwnMore
import Derived.Laws.BytesArg
import Derived.Deep.RegionHeld3
import Derived.BigQuiet
import Derived.Deep.RegionLaw
import Derived.Deep.QuietTactic
import Derived.Lib.OthersKept
import Derived.Test.YtofdfcngmkkfdaaProg
import Derived.Deep.DeepFit
import Derived.Test.YtofdfcngmkkfdaaHoN
set_option linter.unusedVariables false
set_option linter.unusedSimpArgs false
namespace Go.Proofs.Ytofdfcngmkkfdaa
open Go Go.RowKit Go.Shelf

theorem fstG_form {α : Type} (p : α → Bool) : ∀ (l : List α) (k : Nat), fstG p l k = -1 ∨ ∃ i, i < l.length ∧ fstG p l k = ((k + i : Nat) : Int)
  | [], k => .inl rfl
  | x :: l, k => by
    by_cases h : p x = true
    · exact .inr ⟨0, by simp, by rw [fstG, if_pos h]; rfl⟩
    · rcases fstG_form p l (k + 1) with h1 | ⟨i, hi, h1⟩
      · exact .inl (by rw [fstG, if_neg h, h1])
      · exact .inr ⟨i + 1, by simp; omega, by rw [fstG, if_neg h, h1]; congr 1; omega⟩
/-- the error's number; what is left -/
def lfE (hs : List Ru) (s : ByteArray) : Int := if fI hs s < 0 then 3 else 0
def lfL (hs : List Ru) (s : ByteArray) : List Ru := if fI hs s < 0 then [] else hs.take (fI hs s).toNat ++ hs.drop ((fI hs s).toNat + 1)
theorem Mine.callN {A n : Nat} {a w w' : World} (hb : Below n w w') (h : Mine A a w) (hn : A ≤ n) : Mine A a w' := ⟨Nat.le_trans h.le hb.size, h.bel.trans (hb.mono hn)⟩
set_option maxHeartbeats 2000000 in
set_option maxRecDepth 100000 in
/-- **slices.Concat**, of two -/
theorem hconcat_any (G : Nat) (s1 s2 : Value) (xs ys : List Ru) (w : World) (t : TypeId) (h : Row w G t [s1, s2]) (h1 : PV w s1 (ruV xs)) (h2 : PV w s2 (ruV ys)) (hmax : xs.length + ys.length ≤ 1000) :
    Calls Try.prog 77 #[.slice (some ⟨G, 0, none⟩) 2 2] w fun e w' => ∃ u, e = .returned u ∧ OP w' w.heap.size u (xs ++ ys) ∧ Below w.heap.size w w' := by
  have h10 := h1
  have h20 := h2
  obtain ⟨A1, c1, rfl, -⟩ := h1
  obtain ⟨A2, c2, rfl, -⟩ := h2
  rw [ruV_len] at h10 h20 h
  rw [ruV_len] at h
  obtain ⟨n1, hn1⟩ : ∃ n, xs.length = n := ⟨_, rfl⟩
  obtain ⟨n2, hn2⟩ : ∃ n, ys.length = n := ⟨_, rfl⟩
  rw [hn1] at h10 h hmax
  rw [hn2] at h20 h hmax
  have c0 := h.cell0
  have c1' := h.cell1
  obtain ⟨B0, hB0⟩ : ∃ B0, w.heap.size = B0 := ⟨_, rfl⟩
  have HX := Lib.hid h10
  have HY := Lib.hid h20
  have HR := Lib.hid h
  have HN1 := Lib.hid hn1
  have HN2 := Lib.hid hn2
  have z0 : IntKind.i64.wrap 0 = 0 := by decide
  have z1 : IntKind.i64.wrap (n1 : Int) = (n1 : Int) := IntWalk.i64_in _ (by omega)
  have z2 : IntKind.i64.wrap ((n1 : Int) + (n2 : Int)) = (n1 : Int) + (n2 : Int) := IntWalk.i64_in _ (by omega)
  have t1 : decide ((n1 : Int) < 0) = false := decide_eq_false (by omega)
  have t2 : decide ((n1 : Int) + (n2 : Int) < 0) = false := decide_eq_false (by omega)
  have t1' : ¬ ((n1 : Int) < 0) := by omega
  have t2' : ¬ ((n1 : Int) + (n2 : Int) < 0) := by omega
  clear h10 h20 h hn1 hn2
  go_enter Try.func77, Try.ntmps77
  go_wp2
  go_loop [3, 11] (fun x q => (q = .int .i64 0 ∧ x = .int .i64 0) ∨ (q = .int .i64 1 ∧ x = .int .i64 (n1 : Int)) ∨ (q = .int .i64 2 ∧ x = .int .i64 ((n1 : Int) + (n2 : Int)))) (fun _ q => 2 - (intOf q).toNat)
  case atStart => exact .inl ⟨rfl, rfl⟩
  case round =>
    rcases hrel with ⟨rfl, rfl⟩ | ⟨rfl, rfl⟩ | ⟨rfl, rfl⟩
    · go_wp2
      go_round
      case rel => exact .inr (.inl ⟨rfl, by go_num⟩)
      case measure => simp [intOf]
    · go_wp2
      go_round
      case rel => exact .inr (.inr ⟨rfl, by go_num⟩)
      case measure => simp [intOf]
    · have hgr := hgrow_any (n1 + n2) (by omega) w
      rw [show ((n1 + n2 : Nat) : Int) = (n1 : Int) + (n2 : Int) by omega] at hgr
      go_wp2_with fail
      refine hgr.mono ?_
      rintro e w1 ⟨b0, rfl, ho, hb⟩
      have HO := Lib.hid ho
      have HB := Lib.hid hb
      clear ho hb hgr
      rw [hB0] at HO HB
      go_wp2
      go_loopw [6, 27] (fun b q wr => ((q = .int .i64 0 ∧ OP wr B0 b []) ∨ (q = .int .i64 1 ∧ OP wr B0 b xs) ∨ (q = .int .i64 2 ∧ OP wr B0 b (xs ++ ys))) ∧ Mine B0 w wr) (fun _ q _ => 2 - (intOf q).toNat)
      case atStart => exact ⟨.inl ⟨rfl, HO.out⟩, ⟨by have := HB.out.size; omega, HB.out⟩⟩
      case round =>
        clear HO HB c0 c1'
        obtain ⟨hq, hm⟩ := hrel
        have hbe := hm.bel
        rw [← hB0] at hbe
        have c0 := (HR.out.belowS hbe).cell0
        have c1' := (HR.out.belowS hbe).cell1
        have hx := HX.out.below hbe
        have hy := HY.out.below hbe
        have HX1 := Lib.hid hx
        have HY1 := Lib.hid hy
        have HM := Lib.hid hm
        clear hbe hx hy hm
        rcases hq with ⟨rfl, hown⟩ | ⟨rfl, hown⟩ | ⟨rfl, hown⟩
        · have Hown := Lib.hid hown
          clear hown
          go_wp2_with (at_builtin; refine wpP_append rfl _ _ rfl B0 _ _ [] xs rfl Hown.out rfl HX1.out (by have := HN1.out; simp; omega) HM.out.le ?_)
          intro v' w1 hown' hgrow hbel
          have HO := Lib.hid hown'
          have HM1 := Lib.hid (HM.out.callN hbel (Nat.le_refl B0))
          clear hown' hgrow hbel Hown HM
          go_wp2
          go_roundw
          case rel => exact ⟨.inr (.inl ⟨rfl, HO.out⟩), HM1.out⟩
          case measure => simp [intOf]
        · have Hown := Lib.hid hown
          clear hown
          go_wp2_with (at_builtin; refine wpP_append rfl _ _ rfl B0 _ _ xs ys rfl Hown.out rfl HY1.out (by have := HN1.out; have := HN2.out; omega) HM.out.le ?_)
          intro v' w1 hown' hgrow hbel
          have HO := Lib.hid hown'
          have HM1 := Lib.hid (HM.out.callN hbel (Nat.le_refl B0))
          clear hown' hgrow hbel Hown HM
          go_wp2
          go_roundw
          case rel => exact ⟨.inr (.inr ⟨rfl, HO.out⟩), HM1.out⟩
          case measure => simp [intOf]
        · have HO := Lib.hid hown
          have HB := Lib.hid HM.out.bel
          clear hown HM
          go_wp2
          go_ret
          exact ⟨_, rfl, by rw [hB0]; exact HO.out, by rw [hB0]; exact HB.out⟩
set_option maxHeartbeats 4000000 in
set_option maxRecDepth 100000 in
/-- **Lift** -/
theorem lift_any (v : Value) (hs : List Ru) (s : ByteArray) (w : World) (hmax : hs.length ≤ 1000) (hv : PV w v (ruV hs)) :
    Calls Try.prog 49 #[v, .string s] w fun e w' => ∃ u, e = .returned (.tuple #[u, .int .i64 (lfE hs s)]) ∧ OP w' w.heap.size u (lfL hs s) ∧ Below w.heap.size w w' := by
  have hf := hfind_any v hs s w hv
  have hv0 := hv
  obtain ⟨A, c, rfl, hc1, -⟩ := hv
  rw [ruV_len] at hv0 hc1 hf ⊢
  obtain ⟨n, hn⟩ : ∃ n, hs.length = n := ⟨_, rfl⟩
  rw [hn] at hv0 hc1 hf ⊢
  obtain ⟨B, hB⟩ : ∃ B, w.heap.size = B := ⟨_, rfl⟩
  obtain ⟨E, hE⟩ : ∃ E, lfE hs s = E := ⟨_, rfl⟩
  obtain ⟨L, hL⟩ : ∃ L, lfL hs s = L := ⟨_, rfl⟩
  rw [hE, hL]
  unfold lfE at hE
  unfold lfL at hL
  rcases fstG_form (fun h : Ru => h.1.toList == s.toList) hs 0 with h | ⟨i, hi, h⟩
  · have hq : fI hs s = -1 := h
    rw [hq, if_pos (by decide)] at hE hL
    rw [hq] at hf
    subst hE hL
    have HF := Lib.hid hf
    clear hf h hq
    go_enter Try.func49, Try.ntmps49
    go_wp2_with fail
    refine HF.out.mono ?_
    rintro e w1 ⟨rfl, hb1⟩
    go_wp2
    go_ret2
    exact ⟨_, rfl, OP.nil _ _, hb1⟩
  · have hq : fI hs s = (i : Int) := by rw [show fI hs s = _ from h, Nat.zero_add]
    rw [hq, if_neg (by omega)] at hE hL
    rw [Int.toNat_natCast] at hL
    rw [hq] at hf
    rw [hn] at hi hmax
    have ht := hv0.take i (by rw [ruV_len, hn]; omega)
    have hd := hv0.drop (i + 1) (n - (i + 1)) (c - (i + 1)) (by rw [ruV_len, hn]; omega) rfl rfl
    rw [show (ruV hs).take i = ruV (hs.take i) by simp [ruV]] at ht
    rw [show (ruV hs).drop (i + 1) = ruV (hs.drop (i + 1)) by simp [ruV]] at hd
    have hl : (hs.take i).length + (hs.drop (i + 1)).length ≤ 1000 := by simp; omega
    obtain ⟨xs, hxs⟩ : ∃ xs, hs.take i = xs := ⟨_, rfl⟩
    obtain ⟨ys, hys⟩ : ∃ ys, hs.drop (i + 1) = ys := ⟨_, rfl⟩
    rw [hxs] at hL ht hl
    rw [hys] at hL hd hl
    subst hE hL
    have d0 : decide ((i : Int) < 0) = false := decide_eq_false (by omega)
    have d1 : ¬ (i : Int) < 0 := by omega
    have z1 : IntKind.i64.wrap ((i : Int) + 1) = (i : Int) + 1 := IntWalk.i64_in _ (by omega)
    have ka := fun w => hold_runh A n c i (by omega) (i : Int) rfl w
    have kb := fun w => hold_runl A n c (i + 1) (by omega) ((i : Int) + 1) (by omega) (n - (i + 1)) (c - (i + 1)) rfl rfl w
    obtain ⟨m, hm⟩ : ∃ m, n - (i + 1) = m := ⟨_, rfl⟩
    obtain ⟨d, hd'⟩ : ∃ d, c - (i + 1) = d := ⟨_, rfl⟩
    obtain ⟨Ac, hAc⟩ : ∃ Ac, cutH A c (i + 1) = Ac := ⟨_, rfl⟩
    rw [hm, hd', hAc] at hd
    simp only [hm, hd', hAc] at kb
    have HF := Lib.hid hf
    have HT := Lib.hid ht
    have HD := Lib.hid hd
    have HLL := Lib.hid hl
    clear hf h hq ht hd hl hxs hys hm hd' hAc hv0 hn hmax hc1 hi
    go_enter Try.func49, Try.ntmps49
    go_wp2_with fail
    refine HF.out.mono ?_
    rintro e w1 ⟨rfl, hb1⟩
    have M1 := Lib.hid (⟨by have := hb1.size; omega, by rw [← hB]; exact hb1⟩ : Mine B w w1)
    clear hb1 HF
    go_wp2_with fail
    refine wp_region_noPanic ?_
    refine wp_region_held_drew (S := (fun w' => Mine B w w')) (by kernel_rfl) ?_ (fun hHeld => ?_)
    · exact ⟨M1.out.le, M1.out.bel.drew⟩
    refine wpAnyH_take (i := 0) (oi := { dst := some 12, op := Op.move (Operand.tmp 0), type := 45, pos := "hold.go:54", after := #[], guard := none }) (v := ?v0_0) rfl (by kernel_rfl) (by kernel_rfl) (by kernel_rfl) (fun _ _ _ h => h) (Or.inl ⟨by rfl, ?y0_0⟩) (by assumption) ?r0_0
    case y0_0 => intro w hSw; (try dsimp only at hSw); go_simp; try with_reducible rfl
    try simp only [Act.put, List.setIfInBounds_toArray, List.set_cons_zero, List.set_cons_succ]
    refine wpAnyH_take (i := 1) (oi := { dst := some 13, op := Op.move (Operand.tmp 6), type := 3, pos := "hold.go:54", after := #[], guard := none }) (v := ?v1_1) rfl (by kernel_rfl) (by kernel_rfl) (by kernel_rfl) (fun _ _ _ h => h) (Or.inl ⟨by rfl, ?y1_1⟩) (by assumption) ?r1_1
    case y1_1 => intro w hSw; (try dsimp only at hSw); go_simp; try with_reducible rfl
    try simp only [Act.put, List.setIfInBounds_toArray, List.set_cons_zero, List.set_cons_succ]
    refine wpAnyH_take (i := 2) (oi := { dst := some 14, op := Op.slice 45 (Operand.tmp 12) none (some (Operand.tmp 13)) none, type := 45, pos := "hold.go:54", after := #[{ on := 0, ground := Ground.data }, { on := 1, ground := Ground.data }], guard := none }) (v := ?v2_2) rfl (by kernel_rfl) (by kernel_rfl) (by kernel_rfl) (fun _ _ _ h => h) (Or.inl ⟨by rfl, ?y2_2⟩) (by assumption) ?r2_2
    case y2_2 => intro w hSw; (try dsimp only at hSw); go_simp; try with_reducible rfl
    try simp only [Act.put, List.setIfInBounds_toArray, List.set_cons_zero, List.set_cons_succ]
    refine wpAnyH_take (i := 3) (oi := { dst := some 15, op := Op.move (Operand.tmp 0), type := 45, pos := "hold.go:54", after := #[], guard := none }) (v := ?v3_3) rfl (by kernel_rfl) (by kernel_rfl) (by kernel_rfl) (fun _ _ _ h => h) (Or.inl ⟨by rfl, ?y3_3⟩) (by assumption) ?r3_3
    case y3_3 => intro w hSw; (try dsimp only at hSw); go_simp; try with_reducible rfl
    try simp only [Act.put, List.setIfInBounds_toArray, List.set_cons_zero, List.set_cons_succ]
    refine wpAnyH_take (i := 4) (oi := { dst := some 16, op := Op.move (Operand.tmp 6), type := 3, pos := "hold.go:54", after := #[], guard := none }) (v := ?v4_4) rfl (by kernel_rfl) (by kernel_rfl) (by kernel_rfl) (fun _ _ _ h => h) (Or.inl ⟨by rfl, ?y4_4⟩) (by assumption) ?r4_4
    case y4_4 => intro w hSw; (try dsimp only at hSw); go_simp; try with_reducible rfl
    try simp only [Act.put, List.setIfInBounds_toArray, List.set_cons_zero, List.set_cons_succ]
    refine wpAnyH_take (i := 5) (oi := { dst := some 17, op := Op.binOp BinOp.add 3 (Operand.tmp 16) (Operand.const (Value.int IntKind.i64 1)) 3, type := 3, pos := "hold.go:54", after := #[{ on := 4, ground := Ground.data }], guard := none }) (v := ?v5_5) rfl (by kernel_rfl) (by kernel_rfl) (by kernel_rfl) (fun _ _ _ h => h) (Or.inl ⟨by rfl, ?y5_5⟩) (by assumption) ?r5_5
    case y5_5 => intro w hSw; (try dsimp only at hSw); go_simp; try with_reducible rfl
    try simp only [Act.put, List.setIfInBounds_toArray, List.set_cons_zero, List.set_cons_succ]
    refine wpAnyH_take (i := 6) (oi := { dst := some 18, op := Op.slice 45 (Operand.tmp 15) (some (Operand.tmp 17)) none none, type := 45, pos := "hold.go:54", after := #[{ on := 3, ground := Ground.data }, { on := 5, ground := Ground.data }], guard := none }) (v := ?v6_6) rfl (by kernel_rfl) (by kernel_rfl) (by kernel_rfl) (fun _ _ _ h => h) (Or.inl ⟨by rfl, ?y6_6⟩) (by assumption) ?r6_6
    case y6_6 => intro w hSw; (try dsimp only at hSw); go_simp; try with_reducible rfl
    try simp only [Act.put, List.setIfInBounds_toArray, List.set_cons_zero, List.set_cons_succ]
    refine wpAnyH_ready (rs := [7]) (by kernel_rfl) (by simp) (AllReadyH.cons (o := { dst := some 19, op := Op.buildSlice 90 2 #[(0, Operand.tmp 14), (1, Operand.tmp 18)], type := 90, pos := "hold.go:54", after := #[{ on := 2, ground := Ground.data }, { on := 6, ground := Ground.data }], guard := none }) rfl (fun K hK => ?_) AllReadyH.nil)
    go_simp
    refine hK.out _ _ ?_ (fun hHeld => ?_)
    · (try dsimp only); (go_split_ands; (repeat' apply And.intro) <;> first | assumption | exact Mine.call (by assumption) (by assumption) | exact Mine.alloc (by assumption) _ | exact Mine.setCells (by assumption) _ _ _ (by omega) | exact Mine.callN (by assumption) (by assumption) (by omega) | exact Row.belowN (by assumption) (by assumption) (by omega) | exact there_belowN (by assumption) (by assumption) (by omega) | exact rangeAt_below (by assumption) (by assumption) | exact World.rangeAt_alloc (by assumption) _ | exact World.rangeAt_setCells_apart (by assumption) _ _ _ (Or.inl (by omega)) | exact there_below (by assumption) (by assumption) | exact World.there_alloc (by assumption) _ | exact World.there_setCells (by assumption) _ _ _ | exact Row.belowS (by assumption) (by assumption) | exact Row.alloc (by assumption) _ | exact Row.setCells (by assumption) _ _ (by omega) | exact HS.below (by assumption) (by assumption) | exact SB.below (by assumption) (by assumption) | exact HS.alloc (by assumption) _ | exact Box.call (by assumption) (by assumption) | exact Box.alloc (by assumption) _ | exact Box.put (by assumption) _ (by assumption) | exact cell_below (by assumption) (by assumption) | exact Lib.cell?_alloc_some _ (by assumption))
    clear hK K
    try simp only [Act.put, List.setIfInBounds_toArray, List.set_cons_zero, List.set_cons_succ]
    refine wpAnyH_ready (rs := [8]) (by kernel_rfl) (by simp) (AllReadyH.cons (o := { dst := some 20, op := Op.call { callee := Callee.value (Operand.func 77), args := #[Operand.tmp 19], argTypes := #[90] }, type := 45, pos := "hold.go:54", after := #[{ on := 7, ground := Ground.data }], guard := none }) rfl (fun K hK => ?_) AllReadyH.nil)
    go_simp
    refine (hconcat_any _ _ _ xs ys _ 45 (by exact Row.new w1 #[.slice A i c, .slice Ac m d] _) (by exact HT.out.below (by rw [hB]; exact hHeld.bel)) (by exact HD.out.below (by rw [hB]; exact hHeld.bel)) HLL.out).mono ?_; rintro e w4 ⟨u, rfl, hown, hb4⟩; have hle := hHeld.le
    go_wp2_with fail
    refine hK.out _ _ ?_ (fun hHeld => ?_)
    · (try dsimp only); (go_split_ands; (repeat' apply And.intro) <;> first | assumption | exact Mine.call (by assumption) (by assumption) | exact Mine.alloc (by assumption) _ | exact Mine.setCells (by assumption) _ _ _ (by omega) | exact Mine.callN (by assumption) (by assumption) (by omega) | exact Row.belowN (by assumption) (by assumption) (by omega) | exact there_belowN (by assumption) (by assumption) (by omega) | exact rangeAt_below (by assumption) (by assumption) | exact World.rangeAt_alloc (by assumption) _ | exact World.rangeAt_setCells_apart (by assumption) _ _ _ (Or.inl (by omega)) | exact there_below (by assumption) (by assumption) | exact World.there_alloc (by assumption) _ | exact World.there_setCells (by assumption) _ _ _ | exact Row.belowS (by assumption) (by assumption) | exact Row.alloc (by assumption) _ | exact Row.setCells (by assumption) _ _ (by omega) | exact HS.below (by assumption) (by assumption) | exact SB.below (by assumption) (by assumption) | exact HS.alloc (by assumption) _ | exact Box.call (by assumption) (by assumption) | exact Box.alloc (by assumption) _ | exact Box.put (by assumption) _ (by assumption) | exact cell_below (by assumption) (by assumption) | exact Lib.cell?_alloc_some _ (by assumption))
    clear hK K
    try simp only [Act.put, List.setIfInBounds_toArray, List.set_cons_zero, List.set_cons_succ]
    refine wpAnyH_take (i := 9) (oi := { dst := some 4, op := Op.assign (Operand.tmp 20), type := 45, pos := "hold.go:54", after := #[{ on := 8, ground := Ground.data }, { on := 8, ground := Ground.chain }, { on := 0, ground := Ground.phase }, { on := 1, ground := Ground.phase }, { on := 2, ground := Ground.phase }, { on := 3, ground := Ground.phase }, { on := 4, ground := Ground.phase }, { on := 5, ground := Ground.phase }, { on := 6, ground := Ground.phase }, { on := 7, ground := Ground.phase }, { on := 8, ground := Ground.phase }], guard := none }) (v := ?v9_7) rfl (by kernel_rfl) (by kernel_rfl) (by kernel_rfl) (fun _ _ _ h => h) (Or.inl ⟨by rfl, ?y9_7⟩) (by assumption) ?r9_7
    case y9_7 => intro w hSw; (try dsimp only at hSw); go_simp; try with_reducible rfl
    try simp only [Act.put, List.setIfInBounds_toArray, List.set_cons_zero, List.set_cons_succ]
    refine wpAnyH_take (i := 10) (oi := { dst := some 5, op := Op.assign (Operand.const (Value.int IntKind.i64 0)), type := 34, pos := "hold.go:54", after := #[{ on := 9, ground := Ground.chain }, { on := 0, ground := Ground.phase }, { on := 1, ground := Ground.phase }, { on := 2, ground := Ground.phase }, { on := 3, ground := Ground.phase }, { on := 4, ground := Ground.phase }, { on := 5, ground := Ground.phase }, { on := 6, ground := Ground.phase }, { on := 7, ground := Ground.phase }, { on := 8, ground := Ground.phase }, { on := 9, ground := Ground.phase }], guard := none }) (v := ?v10_8) rfl (by kernel_rfl) (by kernel_rfl) (by kernel_rfl) (fun _ _ _ h => h) (Or.inl ⟨by rfl, ?y10_8⟩) (by assumption) ?r10_8
    case y10_8 => intro w hSw; (try dsimp only at hSw); go_simp; try with_reducible rfl
    try simp only [Act.put, List.setIfInBounds_toArray, List.set_cons_zero, List.set_cons_succ]
    refine wpAnyH_done (by kernel_rfl) ?_ _
    refine NoPanic.normal ?_
    have hfin := Lib.hid hHeld.bel
    have hown5 := Lib.hid (hown.mono hle)
    go_wp2
    go_ret2
    exact ⟨_, rfl, by first | exact hown5.out | (rw [hB]; exact hown5.out), by first | exact hfin.out | (rw [hB]; exact hfin.out)⟩
end Go.Proofs.Ytofdfcngmkkfdaa

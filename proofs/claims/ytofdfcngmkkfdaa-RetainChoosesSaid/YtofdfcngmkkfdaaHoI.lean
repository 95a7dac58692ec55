/- the reference's Place, Same. -/
import Derived.RangeFuncNested
import Derived.RangeFuncBound
import Derived.RangeFuncCalls
import Derived.RangeFuncLeaves
import Derived.Shelf.Abstract
import Derived.Shelf.RegionOpen
import Derived.WalkKit
import Derived.OwnWalkIn
import Derived.TacticsInMore
import Derived.LoopNIn
import Derived.LoopIn
import Derived.Outline
import Derived.Lib.Hide
import Derived.Lib.SliceRun
import Derived.IntWalk
import Derived.WalkLawsBesides
import Derived.WalkSpells
import Derived.Laws.BitsAllLaws
import Derived.Lib.ConvBytes
import Derived.Maps.AppendAt
import Derived.Lib.AppendStr
import Derived.Lib.SlBytesConst
import Derived.Laws.AppendOwnNone
import Derived.Laws.OwnMore
import Derived.Laws.BytesArg
import Derived.Deep.RegionHeld3
import Derived.BigQuiet
import Derived.Deep.RegionLaw
import Derived.Deep.QuietTactic
import Derived.Lib.OthersKept
import Derived.Test.YtofdfcngmkkfdaaProg
import Derived.Deep.DeepFit
import Derived.Test.YtofdfcngmkkfdaaHoH
set_option linter.unusedVariables false
set_option linter.unusedSimpArgs false
namespace Go.Proofs.Ytofdfcngmkkfdaa
open Go Go.RowKit Go.Shelf

theorem fI_step (hs : List Ru) (s : ByteArray) (k : Nat) (h : k < hs.length) (b : Bool) (hb : (hs[k].1.toList == s.toList) = b) : fstG (fun h : Ru => h.1.toList == s.toList) (hs.drop k) k = if b = true then (k : Int) else fstG (fun h : Ru => h.1.toList == s.toList) (hs.drop (k + 1)) (k + 1) := by
  rw [fstG_step _ hs k h]
  simp only [hb]
set_option maxRecDepth 100000 in
set_option maxHeartbeats 8000000 in
/-- **the reference's Place** -/
theorem rplace_any (v : Value) (hs : List Ru) (nm who : ByteArray) (w : World) (hmax : hs.length ≤ 1000) (hm : nm.size ≤ maxLen) (hw : who.size ≤ maxLen) (hv : PV w v (ruV hs)) :
    Calls Try.prog 41 #[v, .agg #[.string nm, .string who]] w fun e w' => ∃ u, e = .returned (.tuple #[u, .int .i64 (plE hs (nm, who))]) ∧ OP w' w.heap.size u (plL hs (nm, who)) ∧ Below w.heap.size w w' := by
  have hv0 := hv
  obtain ⟨A, c, rfl, hc1, -⟩ := hv
  rw [ruV_len] at hv0 hc1 ⊢
  obtain ⟨n, hn⟩ : ∃ n, hs.length = n := ⟨_, rfl⟩
  obtain ⟨B, hB⟩ : ∃ B, w.heap.size = B := ⟨_, rfl⟩
  have m0 : Mine B w (w.alloc (.cells #[.string nm, .string who] 47)) := by rw [← hB]; exact (Mine.refl w).alloc _
  have r0 : Row (w.alloc (.cells #[.string nm, .string who] 47)) B 47 [.string nm, .string who] := by rw [← hB]; exact Row.new w _ _
  have hgv : ∀ wr, Mine B w wr → PV wr (.slice A n c) (ruV hs) := fun wr h => (hn ▸ hv0).below (hB ▸ h.bel)
  have hho := fun w => rhold_any nm who hm hw w
  obtain ⟨b1, hb1⟩ : ∃ b, mayB (nm, who) = b := ⟨_, rfl⟩
  obtain ⟨q, hq⟩ : ∃ q, fI hs nm = q := ⟨_, rfl⟩
  have hq0 : Hid (fstG (fun h : Ru => h.1.toList == nm.toList) (hs.drop 0) 0 = q) := hq
  have hE : plE hs (nm, who) = if b1 = true then (if 0 ≤ q then 140 else if 100 ≤ n then 2 else 0) else 140 := by unfold plE; rw [hb1, hq, hn]
  obtain ⟨L, hL⟩ : ∃ L, plL hs (nm, who) = L := ⟨_, rfl⟩
  have hL2 : L = if plE hs (nm, who) = 0 then hs ++ [(nm, who)] else [] := hL.symm
  rw [hL, hn]
  obtain ⟨z, hz⟩ : ∃ z, plE hs (nm, who) = z := ⟨_, rfl⟩
  rw [hz] at hE hL2 ⊢
  simp only [hb1] at hho
  have HHO := Lib.hid hho
  have HV := Lib.hid hgv
  have M0 := Lib.hid m0
  have R0 := Lib.hid r0
  have HN := Lib.hid hn
  have HE := Lib.hid hE
  have HL2 := Lib.hid hL2
  clear hv0 hho hgv hb1 hq hL m0 r0 hn hz hE hL2
  cases b1 with
  | false =>
    have hE := HE.out
    have hL2 := HL2.out
    rw [if_neg (by simp)] at hE
    rw [hE, if_neg (by decide)] at hL2
    clear HE HL2
    subst hE hL2
    go_enter Try.func41, Try.ntmps41
    go_wp2_with fail
    refine (HHO.out _).mono ?_
    rintro e w1 ⟨rfl, hbw⟩
    go_wp2
    go_ret2
    exact ⟨_, rfl, OP.nil _ _, by first | exact (M0.out.call hbw).bel | (rw [hB]; exact (M0.out.call hbw).bel)⟩
  | true =>
    have HE2 : Hid (z = (if 0 ≤ q then 140 else if 100 ≤ n then 2 else 0)) := by have := HE.out; rw [if_pos rfl] at this; exact this
    clear HE
    go_enter Try.func41, Try.ntmps41
    go_wp2_with fail
    refine (HHO.out _).mono ?_
    rintro e w1 ⟨rfl, hbw⟩
    have m1 := M0.out.call hbw
    have r1 := R0.out.belowS hbw
    have M1 := Lib.hid m1
    have R1 := Lib.hid r1
    clear m1 hbw r1 M0 R0
    go_wp2
    try rw [hB]
    go_loopw [13, 7] (fun i x wr => ∃ k : Nat, (i = .int .i64 (k : Int) ∧ k ≤ n) ∧ Hid (fstG (fun h : Ru => h.1.toList == nm.toList) (hs.drop k) k = q) ∧ Row wr B 47 [.string nm, .string who] ∧ Mine B w wr) (fun i _ _ => n - (intOf i).toNat)
    case atStart => exact ⟨0, ⟨rfl, Nat.zero_le _⟩, hq0, R1.out, M1.out⟩
    case round =>
      clear hq0 R1 M1
      obtain ⟨k, ⟨rfl, hk⟩, hno, hr, hmi⟩ := hrel
      by_cases hlt : k < n
      · have hkc : k < hs.length := by rw [HN.out]; exact hlt
        obtain ⟨g, o, rfl, c0, c1⟩ := (HV.out wr hmi).at_ k _ (ruV_get hs k hkc)
        obtain ⟨b, hb⟩ : ∃ b, (hs[k].1.toList == nm.toList) = b := ⟨_, rfl⟩
        have hst := hno.out
        rw [fI_step hs nm k hkc b hb] at hst
        obtain ⟨nk, hnk⟩ : ∃ nm, hs[k].1 = nm := ⟨_, rfl⟩
        obtain ⟨wk, hwk⟩ : ∃ kp, hs[k].2 = kp := ⟨_, rfl⟩
        rw [hnk] at c0 hb
        rw [hwk] at c1
        have d0 : decide (k < n) = true := decide_eq_true hlt
        have k0 : (0 : Int) ≤ (k : Int) := by omega
        have k1 : (k : Int) < (n : Int) := by omega
        have ma := hmi.alloc (.cells #[.string nk, .string wk] 47)
        have ra := hr.alloc (.cells #[.string nk, .string wk] 47)
        have f0 := ra.cell0
        have MA := Lib.hid ma
        have RA := Lib.hid ra
        have HST := Lib.hid hst
        clear hst hno hnk hwk ma ra hr hmi
        cases b with
        | false =>
          go_wp2
          go_roundw
          case rel => exact ⟨k + 1, ⟨by go_num, by omega⟩, HST.out, RA.out, MA.out⟩
          case measure => simp [intOf]; omega
        | true =>
          have hqk : q = (k : Int) := HST.out.symm
          have hE := HE2.out
          have hL2 := HL2.out
          rw [if_pos (by omega)] at hE
          rw [hE, if_neg (by decide)] at hL2
          clear HE2 HL2 HST
          subst hE hL2
          go_wp2
          go_ret2
          exact ⟨_, rfl, OP.nil _ _, by first | exact MA.out.bel | (rw [hB]; exact MA.out.bel)⟩
      · have d0 : decide (k < n) = false := decide_eq_false hlt
        have hqe : q = -1 := by rw [← hno.out]; exact fstG_end _ hs k (by rw [HN.out]; omega)
        have hE := HE2.out
        have hL2 := HL2.out
        rw [if_neg (by omega)] at hE
        clear HE2 HL2 hno
        by_cases h2 : 100 ≤ n
        · have d2 : decide (100 ≤ n) = true := decide_eq_true h2
          have d3 : decide ((100 : Int) ≤ (n : Int)) = true := decide_eq_true (by omega)
          rw [if_pos h2] at hE
          rw [hE, if_neg (by decide)] at hL2
          subst hE hL2
          go_wp2
          go_ret2
          exact ⟨_, rfl, OP.nil _ _, by first | exact hmi.bel | (rw [hB]; exact hmi.bel)⟩
        · have d2 : decide (100 ≤ n) = false := decide_eq_false h2
          have d3 : decide ((100 : Int) ≤ (n : Int)) = false := decide_eq_false (by omega)
          rw [if_neg h2] at hE
          rw [hE, if_pos rfl] at hL2
          subst hE hL2
          have M2 := Lib.hid hmi
          have R2 := Lib.hid hr
          clear hr hmi
          go_wp2_with fail
          refine wp_region_noPanic ?_
          refine wp_region_held_drew (S := (fun w' => Mine B w w' ∧ w'.cell? ⟨B, 0, none⟩ = some (.string nm) ∧ w'.cell? ⟨B, 1, none⟩ = some (.string who))) (by kernel_rfl) ?_ (fun hHeld => ?_)
          · exact ⟨⟨M2.out.le, M2.out.bel.drew⟩, R2.out.cell0, R2.out.cell1⟩
          refine wpAnyH_take (i := 0) (oi := { dst := some 26, op := Op.move (Operand.tmp 0), type := 45, pos := "ref.go:119", after := #[], guard := none }) (v := ?v0_0) rfl (by kernel_rfl) (by kernel_rfl) (by kernel_rfl) (fun _ _ _ h => h) (Or.inl ⟨by rfl, ?y0_0⟩) (by assumption) ?r0_0
          case y0_0 => intro w hSw; (try dsimp only at hSw); go_simp; try with_reducible rfl
          try simp only [Act.put, List.setIfInBounds_toArray, List.set_cons_zero, List.set_cons_succ]
          refine wpAnyH_take (i := 2) (oi := { dst := some 28, op := Op.load 47 (Operand.tmp 3), type := 47, pos := "ref.go:119", after := #[], guard := none }) (v := ?v2_1) rfl (by kernel_rfl) (by kernel_rfl) (by kernel_rfl) (fun _ _ _ h => h) (Or.inl ⟨by rfl, ?y2_1⟩) (by assumption) ?r2_1
          case y2_1 => intro w hSw; (try dsimp only at hSw); have c0 := hSw.2.1; have c1 := hSw.2.2; go_simp; try with_reducible rfl
          try simp only [Act.put, List.setIfInBounds_toArray, List.set_cons_zero, List.set_cons_succ]
          refine wpAnyH_ready (rs := [1, 3]) (by kernel_rfl) (by simp) (AllReadyH.cons (o := { dst := some 27, op := Op.call { callee := Callee.builtin Builtin.append, args := #[Operand.const (Value.slice none 0 0), Operand.tmp 26], argTypes := #[45, 45] }, type := 45, pos := "ref.go:119", after := #[{ on := 0, ground := Ground.data }], guard := none }) rfl (fun K hK => ?_) (AllReadyH.cons (o := { dst := some 29, op := Op.buildSlice 45 1 #[(0, Operand.tmp 28)], type := 45, pos := "ref.go:119", after := #[{ on := 2, ground := Ground.data }], guard := none }) rfl (fun K hK => ?_) AllReadyH.nil))
          ·
            have hlt := World.block_lt_of_cell? _ _ hHeld.2.1; refine stepP_append rfl (.const (.slice none 0 0)) (.tmp 26) rfl _ _ _ [] hs rfl (OP.nil _ _) rfl (HV.out _ hHeld.1) (by simp; omega) (Nat.le_refl _) ?_; intro u w3 hown hg3 hb3; have hq3 : Mine B w w3 := ⟨Nat.le_trans hHeld.1.le hb3.size, hHeld.1.bel.trans (hb3.mono (Nat.le_of_lt hlt))⟩; have hx0 := cell_belowN hHeld.2.1 hb3 hlt; have hx1 := cell_belowN hHeld.2.2 hb3 hlt
            refine hK.out _ _ ?_ (fun hHeld => ?_)
            · (try dsimp only); (go_split_ands; (repeat' apply And.intro) <;> first | assumption | exact Mine.call (by assumption) (by assumption) | exact Mine.alloc (by assumption) _ | exact Mine.setCells (by assumption) _ _ _ (by omega) | exact Mine.callN (by assumption) (by assumption) (by omega) | exact Row.belowN (by assumption) (by assumption) (by omega) | exact there_belowN (by assumption) (by assumption) (by omega) | exact rangeAt_below (by assumption) (by assumption) | exact World.rangeAt_alloc (by assumption) _ | exact World.rangeAt_setCells_apart (by assumption) _ _ _ (Or.inl (by omega)) | exact there_below (by assumption) (by assumption) | exact World.there_alloc (by assumption) _ | exact World.there_setCells (by assumption) _ _ _ | exact Row.belowS (by assumption) (by assumption) | exact Row.alloc (by assumption) _ | exact Row.setCells (by assumption) _ _ (by omega) | exact HS.below (by assumption) (by assumption) | exact SB.below (by assumption) (by assumption) | exact HS.alloc (by assumption) _ | exact Box.call (by assumption) (by assumption) | exact Box.alloc (by assumption) _ | exact Box.put (by assumption) _ (by assumption) | exact cell_below (by assumption) (by assumption) | exact Lib.cell?_alloc_some _ (by assumption))
            clear hK K
            try simp only [Act.put, List.setIfInBounds_toArray, List.set_cons_zero, List.set_cons_succ]
            refine wpAnyH_ready (rs := [3]) (by kernel_rfl) (by simp) (AllReadyH.cons (o := { dst := some 29, op := Op.buildSlice 45 1 #[(0, Operand.tmp 28)], type := 45, pos := "ref.go:119", after := #[{ on := 2, ground := Ground.data }], guard := none }) rfl (fun K hK => ?_) AllReadyH.nil)
            go_simp
            refine hK.out _ _ ?_ (fun hHeld => ?_)
            · (try dsimp only); (go_split_ands; (repeat' apply And.intro) <;> first | assumption | exact Mine.call (by assumption) (by assumption) | exact Mine.alloc (by assumption) _ | exact Mine.setCells (by assumption) _ _ _ (by omega) | exact Mine.callN (by assumption) (by assumption) (by omega) | exact Row.belowN (by assumption) (by assumption) (by omega) | exact there_belowN (by assumption) (by assumption) (by omega) | exact rangeAt_below (by assumption) (by assumption) | exact World.rangeAt_alloc (by assumption) _ | exact World.rangeAt_setCells_apart (by assumption) _ _ _ (Or.inl (by omega)) | exact there_below (by assumption) (by assumption) | exact World.there_alloc (by assumption) _ | exact World.there_setCells (by assumption) _ _ _ | exact Row.belowS (by assumption) (by assumption) | exact Row.alloc (by assumption) _ | exact Row.setCells (by assumption) _ _ (by omega) | exact HS.below (by assumption) (by assumption) | exact SB.below (by assumption) (by assumption) | exact HS.alloc (by assumption) _ | exact Box.call (by assumption) (by assumption) | exact Box.alloc (by assumption) _ | exact Box.put (by assumption) _ (by assumption) | exact cell_below (by assumption) (by assumption) | exact Lib.cell?_alloc_some _ (by assumption))
            clear hK K
            try simp only [Act.put, List.setIfInBounds_toArray, List.set_cons_zero, List.set_cons_succ]
            refine wpAnyH_ready (rs := [4]) (by kernel_rfl) (by simp) (AllReadyH.cons (o := { dst := some 30, op := Op.call { callee := Callee.builtin Builtin.append, args := #[Operand.tmp 27, Operand.tmp 29], argTypes := #[45, 45] }, type := 45, pos := "ref.go:119", after := #[{ on := 1, ground := Ground.data }, { on := 3, ground := Ground.data }, { on := 1, ground := Ground.chain }], guard := none }) rfl (fun K hK => ?_) AllReadyH.nil)
            refine stepP_append rfl (.tmp 27) (.tmp 29) rfl _ u _ ([] ++ hs) [(nm, who)] rfl (by first | exact hown.alloc _ | exact hown) rfl (by first | exact PV.one _ _ _ _ | (refine PV.below ?_ hb3; exact PV.one _ _ _ _)) (by simp; omega) (by first | exact hb3.size | exact Nat.le_trans hb3.size (by rw [alloc_size]; omega)) ?_; intro v4 w4 hown4 hg4 hb4; have hq4 : Mine B w w4 := ⟨Nat.le_trans hHeld.1.le hb4.size, hHeld.1.bel.trans (hb4.mono (Nat.le_of_lt hlt))⟩; have hx0 := cell_belowN hHeld.2.1 hb4 hlt; have hx1 := cell_belowN hHeld.2.2 hb4 hlt
            refine hK.out _ _ ?_ (fun hHeld => ?_)
            · (try dsimp only); (go_split_ands; (repeat' apply And.intro) <;> first | assumption | exact Mine.call (by assumption) (by assumption) | exact Mine.alloc (by assumption) _ | exact Mine.setCells (by assumption) _ _ _ (by omega) | exact Mine.callN (by assumption) (by assumption) (by omega) | exact Row.belowN (by assumption) (by assumption) (by omega) | exact there_belowN (by assumption) (by assumption) (by omega) | exact rangeAt_below (by assumption) (by assumption) | exact World.rangeAt_alloc (by assumption) _ | exact World.rangeAt_setCells_apart (by assumption) _ _ _ (Or.inl (by omega)) | exact there_below (by assumption) (by assumption) | exact World.there_alloc (by assumption) _ | exact World.there_setCells (by assumption) _ _ _ | exact Row.belowS (by assumption) (by assumption) | exact Row.alloc (by assumption) _ | exact Row.setCells (by assumption) _ _ (by omega) | exact HS.below (by assumption) (by assumption) | exact SB.below (by assumption) (by assumption) | exact HS.alloc (by assumption) _ | exact Box.call (by assumption) (by assumption) | exact Box.alloc (by assumption) _ | exact Box.put (by assumption) _ (by assumption) | exact cell_below (by assumption) (by assumption) | exact Lib.cell?_alloc_some _ (by assumption))
            clear hK K
            try simp only [Act.put, List.setIfInBounds_toArray, List.set_cons_zero, List.set_cons_succ]
            refine wpAnyH_take (i := 5) (oi := { dst := some 4, op := Op.assign (Operand.tmp 30), type := 45, pos := "ref.go:119", after := #[{ on := 4, ground := Ground.data }, { on := 4, ground := Ground.chain }, { on := 0, ground := Ground.phase }, { on := 1, ground := Ground.phase }, { on := 2, ground := Ground.phase }, { on := 3, ground := Ground.phase }, { on := 4, ground := Ground.phase }], guard := none }) (v := ?v5_2) rfl (by kernel_rfl) (by kernel_rfl) (by kernel_rfl) (fun _ _ _ h => h) (Or.inl ⟨by rfl, ?y5_2⟩) (by assumption) ?r5_2
            case y5_2 => intro w hSw; (try dsimp only at hSw); go_simp; try with_reducible rfl
            try simp only [Act.put, List.setIfInBounds_toArray, List.set_cons_zero, List.set_cons_succ]
            refine wpAnyH_take (i := 6) (oi := { dst := some 5, op := Op.assign (Operand.const (Value.int IntKind.i64 0)), type := 3, pos := "ref.go:119", after := #[{ on := 5, ground := Ground.chain }, { on := 0, ground := Ground.phase }, { on := 1, ground := Ground.phase }, { on := 2, ground := Ground.phase }, { on := 3, ground := Ground.phase }, { on := 4, ground := Ground.phase }, { on := 5, ground := Ground.phase }], guard := none }) (v := ?v6_3) rfl (by kernel_rfl) (by kernel_rfl) (by kernel_rfl) (fun _ _ _ h => h) (Or.inl ⟨by rfl, ?y6_3⟩) (by assumption) ?r6_3
            case y6_3 => intro w hSw; (try dsimp only at hSw); go_simp; try with_reducible rfl
            try simp only [Act.put, List.setIfInBounds_toArray, List.set_cons_zero, List.set_cons_succ]
            refine wpAnyH_done (by kernel_rfl) ?_ _
            refine NoPanic.normal ?_
            have hfin := Lib.hid hHeld.1.bel
            have hown5 := Lib.hid hown4
            go_wp2
            go_ret2
            exact ⟨_, rfl, by first | exact hown5.out.mono (Nat.le_of_lt hlt) | (rw [hB]; exact hown5.out.mono (Nat.le_of_lt hlt)), by first | exact hfin.out | (rw [hB]; exact hfin.out)⟩
          ·
            go_simp
            refine hK.out _ _ ?_ (fun hHeld => ?_)
            · (try dsimp only); (go_split_ands; (repeat' apply And.intro) <;> first | assumption | exact Mine.call (by assumption) (by assumption) | exact Mine.alloc (by assumption) _ | exact Mine.setCells (by assumption) _ _ _ (by omega) | exact Mine.callN (by assumption) (by assumption) (by omega) | exact Row.belowN (by assumption) (by assumption) (by omega) | exact there_belowN (by assumption) (by assumption) (by omega) | exact rangeAt_below (by assumption) (by assumption) | exact World.rangeAt_alloc (by assumption) _ | exact World.rangeAt_setCells_apart (by assumption) _ _ _ (Or.inl (by omega)) | exact there_below (by assumption) (by assumption) | exact World.there_alloc (by assumption) _ | exact World.there_setCells (by assumption) _ _ _ | exact Row.belowS (by assumption) (by assumption) | exact Row.alloc (by assumption) _ | exact Row.setCells (by assumption) _ _ (by omega) | exact HS.below (by assumption) (by assumption) | exact SB.below (by assumption) (by assumption) | exact HS.alloc (by assumption) _ | exact Box.call (by assumption) (by assumption) | exact Box.alloc (by assumption) _ | exact Box.put (by assumption) _ (by assumption) | exact cell_below (by assumption) (by assumption) | exact Lib.cell?_alloc_some _ (by assumption))
            clear hK K
            try simp only [Act.put, List.setIfInBounds_toArray, List.set_cons_zero, List.set_cons_succ]
            refine wpAnyH_ready (rs := [1]) (by kernel_rfl) (by simp) (AllReadyH.cons (o := { dst := some 27, op := Op.call { callee := Callee.builtin Builtin.append, args := #[Operand.const (Value.slice none 0 0), Operand.tmp 26], argTypes := #[45, 45] }, type := 45, pos := "ref.go:119", after := #[{ on := 0, ground := Ground.data }], guard := none }) rfl (fun K hK => ?_) AllReadyH.nil)
            have hlt := World.block_lt_of_cell? _ _ hHeld.2.1; refine stepP_append rfl (.const (.slice none 0 0)) (.tmp 26) rfl _ _ _ [] hs rfl (OP.nil _ _) rfl (HV.out _ hHeld.1) (by simp; omega) (Nat.le_refl _) ?_; intro u w3 hown hg3 hb3; have hq3 : Mine B w w3 := ⟨Nat.le_trans hHeld.1.le hb3.size, hHeld.1.bel.trans (hb3.mono (Nat.le_of_lt hlt))⟩; have hx0 := cell_belowN hHeld.2.1 hb3 hlt; have hx1 := cell_belowN hHeld.2.2 hb3 hlt
            refine hK.out _ _ ?_ (fun hHeld => ?_)
            · (try dsimp only); (go_split_ands; (repeat' apply And.intro) <;> first | assumption | exact Mine.call (by assumption) (by assumption) | exact Mine.alloc (by assumption) _ | exact Mine.setCells (by assumption) _ _ _ (by omega) | exact Mine.callN (by assumption) (by assumption) (by omega) | exact Row.belowN (by assumption) (by assumption) (by omega) | exact there_belowN (by assumption) (by assumption) (by omega) | exact rangeAt_below (by assumption) (by assumption) | exact World.rangeAt_alloc (by assumption) _ | exact World.rangeAt_setCells_apart (by assumption) _ _ _ (Or.inl (by omega)) | exact there_below (by assumption) (by assumption) | exact World.there_alloc (by assumption) _ | exact World.there_setCells (by assumption) _ _ _ | exact Row.belowS (by assumption) (by assumption) | exact Row.alloc (by assumption) _ | exact Row.setCells (by assumption) _ _ (by omega) | exact HS.below (by assumption) (by assumption) | exact SB.below (by assumption) (by assumption) | exact HS.alloc (by assumption) _ | exact Box.call (by assumption) (by assumption) | exact Box.alloc (by assumption) _ | exact Box.put (by assumption) _ (by assumption) | exact cell_below (by assumption) (by assumption) | exact Lib.cell?_alloc_some _ (by assumption))
            clear hK K
            try simp only [Act.put, List.setIfInBounds_toArray, List.set_cons_zero, List.set_cons_succ]
            refine wpAnyH_ready (rs := [4]) (by kernel_rfl) (by simp) (AllReadyH.cons (o := { dst := some 30, op := Op.call { callee := Callee.builtin Builtin.append, args := #[Operand.tmp 27, Operand.tmp 29], argTypes := #[45, 45] }, type := 45, pos := "ref.go:119", after := #[{ on := 1, ground := Ground.data }, { on := 3, ground := Ground.data }, { on := 1, ground := Ground.chain }], guard := none }) rfl (fun K hK => ?_) AllReadyH.nil)
            refine stepP_append rfl (.tmp 27) (.tmp 29) rfl _ u _ ([] ++ hs) [(nm, who)] rfl (by first | exact hown.alloc _ | exact hown) rfl (by first | exact PV.one _ _ _ _ | (refine PV.below ?_ hb3; exact PV.one _ _ _ _)) (by simp; omega) (by first | exact hb3.size | exact Nat.le_trans hb3.size (by rw [alloc_size]; omega)) ?_; intro v4 w4 hown4 hg4 hb4; have hq4 : Mine B w w4 := ⟨Nat.le_trans hHeld.1.le hb4.size, hHeld.1.bel.trans (hb4.mono (Nat.le_of_lt hlt))⟩; have hx0 := cell_belowN hHeld.2.1 hb4 hlt; have hx1 := cell_belowN hHeld.2.2 hb4 hlt
            refine hK.out _ _ ?_ (fun hHeld => ?_)
            · (try dsimp only); (go_split_ands; (repeat' apply And.intro) <;> first | assumption | exact Mine.call (by assumption) (by assumption) | exact Mine.alloc (by assumption) _ | exact Mine.setCells (by assumption) _ _ _ (by omega) | exact Mine.callN (by assumption) (by assumption) (by omega) | exact Row.belowN (by assumption) (by assumption) (by omega) | exact there_belowN (by assumption) (by assumption) (by omega) | exact rangeAt_below (by assumption) (by assumption) | exact World.rangeAt_alloc (by assumption) _ | exact World.rangeAt_setCells_apart (by assumption) _ _ _ (Or.inl (by omega)) | exact there_below (by assumption) (by assumption) | exact World.there_alloc (by assumption) _ | exact World.there_setCells (by assumption) _ _ _ | exact Row.belowS (by assumption) (by assumption) | exact Row.alloc (by assumption) _ | exact Row.setCells (by assumption) _ _ (by omega) | exact HS.below (by assumption) (by assumption) | exact SB.below (by assumption) (by assumption) | exact HS.alloc (by assumption) _ | exact Box.call (by assumption) (by assumption) | exact Box.alloc (by assumption) _ | exact Box.put (by assumption) _ (by assumption) | exact cell_below (by assumption) (by assumption) | exact Lib.cell?_alloc_some _ (by assumption))
            clear hK K
            try simp only [Act.put, List.setIfInBounds_toArray, List.set_cons_zero, List.set_cons_succ]
            refine wpAnyH_take (i := 5) (oi := { dst := some 4, op := Op.assign (Operand.tmp 30), type := 45, pos := "ref.go:119", after := #[{ on := 4, ground := Ground.data }, { on := 4, ground := Ground.chain }, { on := 0, ground := Ground.phase }, { on := 1, ground := Ground.phase }, { on := 2, ground := Ground.phase }, { on := 3, ground := Ground.phase }, { on := 4, ground := Ground.phase }], guard := none }) (v := ?v5_4) rfl (by kernel_rfl) (by kernel_rfl) (by kernel_rfl) (fun _ _ _ h => h) (Or.inl ⟨by rfl, ?y5_4⟩) (by assumption) ?r5_4
            case y5_4 => intro w hSw; (try dsimp only at hSw); go_simp; try with_reducible rfl
            try simp only [Act.put, List.setIfInBounds_toArray, List.set_cons_zero, List.set_cons_succ]
            refine wpAnyH_take (i := 6) (oi := { dst := some 5, op := Op.assign (Operand.const (Value.int IntKind.i64 0)), type := 3, pos := "ref.go:119", after := #[{ on := 5, ground := Ground.chain }, { on := 0, ground := Ground.phase }, { on := 1, ground := Ground.phase }, { on := 2, ground := Ground.phase }, { on := 3, ground := Ground.phase }, { on := 4, ground := Ground.phase }, { on := 5, ground := Ground.phase }], guard := none }) (v := ?v6_5) rfl (by kernel_rfl) (by kernel_rfl) (by kernel_rfl) (fun _ _ _ h => h) (Or.inl ⟨by rfl, ?y6_5⟩) (by assumption) ?r6_5
            case y6_5 => intro w hSw; (try dsimp only at hSw); go_simp; try with_reducible rfl
            try simp only [Act.put, List.setIfInBounds_toArray, List.set_cons_zero, List.set_cons_succ]
            refine wpAnyH_done (by kernel_rfl) ?_ _
            refine NoPanic.normal ?_
            have hfin := Lib.hid hHeld.1.bel
            have hown5 := Lib.hid hown4
            go_wp2
            go_ret2
            exact ⟨_, rfl, by first | exact hown5.out.mono (Nat.le_of_lt hlt) | (rw [hB]; exact hown5.out.mono (Nat.le_of_lt hlt)), by first | exact hfin.out | (rw [hB]; exact hfin.out)⟩
end Go.Proofs.Ytofdfcngmkkfdaa

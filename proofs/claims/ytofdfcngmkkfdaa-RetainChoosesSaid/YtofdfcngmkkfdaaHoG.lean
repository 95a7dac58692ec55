/- hold: Place. -/
import Derived.RangeFuncNested
import Derived.RangeFuncBound
import Derived.RangeFuncCalls
import Derived.RangeFuncLeaves
import Derived.Shelf.Abstract
import Derived.Shelf.RegionOpen
import Derived.WalkKit
import Derived.OwnWalkIn
import Derived.TacticsInMore
import Derived.LoopNIn
import Derived.LoopIn
import Derived.Outline
import Derived.Lib.Hide
import Derived.Lib.SliceRun
import Derived.IntWalk
import Derived.WalkLawsBesides
import Derived.WalkSpells
import Derived.Laws.BitsAllLaws
import Derived.Lib.ConvBytes
import Derived.Maps.AppendAt
import Derived.Lib.AppendStr
import Derived.Lib.SlBytesConst
import Derived.Laws.AppendOwnNone
import Derived.Laws.OwnMore
import Derived.Laws.BytesArg
import Derived.Deep.RegionHeld3
import Derived.BigQuiet
import Derived.Deep.RegionLaw
import Derived.Deep.QuietTactic
import Derived.Lib.OthersKept
import Derived.Test.YtofdfcngmkkfdaaProg
import Derived.Deep.DeepFit
import Derived.Test.YtofdfcngmkkfdaaHoF
set_option linter.unusedVariables false
set_option linter.unusedSimpArgs false
namespace Go.Proofs.Ytofdfcngmkkfdaa
open Go Go.RowKit Go.Shelf

theorem OP.mono {W : World} {B B' : Nat} {v : Value} {l : List Ru} (h : OP W B v l) (hb : B' ≤ B) : OP W B' v l := by
  obtain ⟨h1, h2⟩ := h
  refine ⟨h1, ?_⟩
  rcases h2 with h | ⟨g, cap, cur, e, hg, r⟩
  · exact .inl h
  · exact .inr ⟨g, cap, cur, e, by omega, r⟩
theorem OP.below {W W' : World} {B : Nat} {v : Value} {l : List Ru} (h : OP W B v l) (hb : Below W.heap.size W W') : OP W' B v l :=
  h.kept (row := none) ⟨hb.os, hb.tape, hb.output, hb.size, fun k hk _ => hb.block k hk⟩ (by cases v.ownBlock <;> simp)
theorem OP.alloc {W : World} {B : Nat} {v : Value} {l : List Ru} (h : OP W B v l) (o : Obj) : OP (W.alloc o) B v l := h.below ((Below.refl _ W).alloc (Nat.le_refl _) o)
theorem PV.one (W : World) (a b : ByteArray) (t : TypeId) : PV (W.alloc (.cells #[.string a, .string b] t)) (.slice (some ⟨W.heap.size, 0, none⟩) 1 1) (ruV [(a, b)]) := by
  have r := Row.new W #[.string a, .string b] t
  have c0 := r.cell 0
  have c1 := r.cell 1
  refine ⟨_, 1, rfl, by simp [ruV], fun i x hx => ⟨W.heap.size, 0, rfl, ?_, ?_⟩⟩
  · have hi : i = 0 := by have := (List.getElem?_eq_some_iff.1 hx).1; simp [ruV] at this; omega
    subst hi
    simp [ruV] at hx
    subst hx
    exact c0
  · have hi : i = 0 := by have := (List.getElem?_eq_some_iff.1 hx).1; simp [ruV] at this; omega
    subst hi
    simp [ruV] at hx
    subst hx
    exact c1
/-- the error's number; what is placed -/
def plE (hs : List Ru) (h : Ru) : Int := if mayB h = true then (if 0 ≤ fI hs h.1 then 140 else if 100 ≤ hs.length then 2 else 0) else 140
def plL (hs : List Ru) (h : Ru) : List Ru := if plE hs h = 0 then hs ++ [h] else []
set_option maxRecDepth 100000 in
set_option maxHeartbeats 4000000 in
/-- **Place** -/
theorem place_any (v : Value) (hs : List Ru) (nm who : ByteArray) (w : World) (hmax : hs.length ≤ 1000) (hw : who.size ≤ maxLen) (hv : PV w v (ruV hs)) :
    Calls Try.prog 40 #[v, .agg #[.string nm, .string who]] w fun e w' => ∃ u, e = .returned (.tuple #[u, .int .i64 (plE hs (nm, who))]) ∧ OP w' w.heap.size u (plL hs (nm, who)) ∧ Below w.heap.size w w' := by
  have hv0 := hv
  obtain ⟨A, c, rfl, hc1, -⟩ := hv
  rw [ruV_len] at hv0 hc1 ⊢
  obtain ⟨n, hn⟩ : ∃ n, hs.length = n := ⟨_, rfl⟩
  obtain ⟨B, hB⟩ : ∃ B, w.heap.size = B := ⟨_, rfl⟩
  have m0 : Mine B w (w.alloc (.cells #[.string nm, .string who] 47)) := by rw [← hB]; exact (Mine.refl w).alloc _
  have r0 : Row (w.alloc (.cells #[.string nm, .string who] 47)) B 47 [.string nm, .string who] := by rw [← hB]; exact Row.new w _ _
  have hgv : ∀ wr, Mine B w wr → PV wr (.slice A n c) (ruV hs) := fun wr h => (hn ▸ hv0).below (hB ▸ h.bel)
  have hmay := fun w => may_any nm who hw w
  have hfi := fun wr h => hfind_any (.slice A n c) hs nm wr (hgv wr h)
  have hcl := fun wr h => hclone_any (.slice A n c) hs wr hmax (hgv wr h)
  obtain ⟨b1, hb1⟩ : ∃ b, mayB (nm, who) = b := ⟨_, rfl⟩
  obtain ⟨q, hq⟩ : ∃ q, fI hs nm = q := ⟨_, rfl⟩
  have hE : plE hs (nm, who) = if b1 = true then (if 0 ≤ q then 140 else if 100 ≤ n then 2 else 0) else 140 := by unfold plE; rw [hb1, hq, hn]
  obtain ⟨L, hL⟩ : ∃ L, plL hs (nm, who) = L := ⟨_, rfl⟩
  have hL2 : L = if plE hs (nm, who) = 0 then hs ++ [(nm, who)] else [] := hL.symm
  rw [hL, hn]
  obtain ⟨z, hz⟩ : ∃ z, plE hs (nm, who) = z := ⟨_, rfl⟩
  rw [hz] at hE hL2 ⊢
  simp only [hb1] at hmay
  simp only [hq] at hfi
  have HMAY := Lib.hid hmay
  have HFI := Lib.hid hfi
  have HCL := Lib.hid hcl
  have M0 := Lib.hid m0
  have R0 := Lib.hid r0
  have HN := Lib.hid hn
  clear hv0 hmay hfi hcl hgv hb1 hq hL m0 r0 hn hz
  cases b1 with
  | false =>
    rw [if_neg (by simp)] at hE
    rw [hE, if_neg (by decide)] at hL2
    subst hE hL2
    go_enter Try.func40, Try.ntmps40
    go_wp2_with fail
    refine (HMAY.out _).mono ?_
    rintro e w1 ⟨rfl, hbw⟩
    go_wp2
    go_ret2
    exact ⟨_, rfl, OP.nil _ _, by rw [hB]; exact (M0.out.call hbw).bel⟩
  | true =>
    rw [if_pos rfl] at hE
    by_cases h1 : 0 ≤ q
    · have d1 : decide (0 ≤ q) = true := decide_eq_true h1
      rw [if_pos h1] at hE
      rw [hE, if_neg (by decide)] at hL2
      subst hE hL2
      go_enter Try.func40, Try.ntmps40
      go_wp2_with fail
      refine (HMAY.out _).mono ?_
      rintro e w1 ⟨rfl, hbw⟩
      have m1 := M0.out.call hbw
      have c0 := (R0.out.belowS hbw).cell0
      have M1 := Lib.hid m1
      clear m1 hbw
      go_wp2_with fail
      refine (HFI.out _ M1.out).mono ?_
      rintro e w2 ⟨rfl, hbw⟩
      go_wp2
      go_ret2
      exact ⟨_, rfl, OP.nil _ _, by rw [hB]; exact (M1.out.call hbw).bel⟩
    · have d1 : decide (0 ≤ q) = false := decide_eq_false h1
      rw [if_neg h1] at hE
      by_cases h2 : 100 ≤ n
      · have d2 : decide (100 ≤ n) = true := decide_eq_true h2
        have d3 : decide ((100 : Int) ≤ (n : Int)) = true := decide_eq_true (by omega)
        rw [if_pos h2] at hE
        rw [hE, if_neg (by decide)] at hL2
        subst hE hL2
        go_enter Try.func40, Try.ntmps40
        go_wp2_with fail
        refine (HMAY.out _).mono ?_
        rintro e w1 ⟨rfl, hbw⟩
        have m1 := M0.out.call hbw
        have c0 := (R0.out.belowS hbw).cell0
        have M1 := Lib.hid m1
        clear m1 hbw
        go_wp2_with fail
        refine (HFI.out _ M1.out).mono ?_
        rintro e w2 ⟨rfl, hbw⟩
        go_wp2
        go_ret2
        exact ⟨_, rfl, OP.nil _ _, by rw [hB]; exact (M1.out.call hbw).bel⟩
      · have d2 : decide (100 ≤ n) = false := decide_eq_false h2
        have d3 : decide ((100 : Int) ≤ (n : Int)) = false := decide_eq_false (by omega)
        rw [if_neg h2] at hE
        rw [hE, if_pos rfl] at hL2
        subst hE hL2
        go_enter Try.func40, Try.ntmps40
        go_wp2_with fail
        refine (HMAY.out _).mono ?_
        rintro e w1 ⟨rfl, hbw⟩
        have m1 := M0.out.call hbw
        have r1 := R0.out.belowS hbw
        have c0 := r1.cell0
        have M1 := Lib.hid m1
        have R1 := Lib.hid r1
        clear m1 hbw r1
        go_wp2_with fail
        refine (HFI.out _ M1.out).mono ?_
        rintro e w2 ⟨rfl, hbw⟩
        have m2 := M1.out.call hbw
        have r2 := R1.out.belowS hbw
        have M2 := Lib.hid m2
        have R2 := Lib.hid r2
        clear m2 r2 hbw c0
        go_wp2_with fail
        refine wp_region_noPanic ?_
        refine wp_region_held_drew (S := (fun w' => Mine B w w' ∧ w'.cell? ⟨B, 0, none⟩ = some (.string nm) ∧ w'.cell? ⟨B, 1, none⟩ = some (.string who))) (by kernel_rfl) ?_ (fun hHeld => ?_)
        · exact ⟨⟨M2.out.le, M2.out.bel.drew⟩, R2.out.cell0, R2.out.cell1⟩
        refine wpAnyH_take (i := 0) (oi := { dst := some 19, op := Op.move (Operand.tmp 0), type := 45, pos := "hold.go:45", after := #[], guard := none }) (v := ?v0_0) rfl (by kernel_rfl) (by kernel_rfl) (by kernel_rfl) (fun _ _ _ h => h) (Or.inl ⟨by rfl, ?y0_0⟩) (by assumption) ?r0_0
        case y0_0 => intro w hSw; (try dsimp only at hSw); go_simp; try with_reducible rfl
        try simp only [Act.put, List.setIfInBounds_toArray, List.set_cons_zero, List.set_cons_succ]
        refine wpAnyH_take (i := 2) (oi := { dst := some 21, op := Op.load 47 (Operand.tmp 3), type := 47, pos := "hold.go:45", after := #[], guard := none }) (v := ?v2_1) rfl (by kernel_rfl) (by kernel_rfl) (by kernel_rfl) (fun _ _ _ h => h) (Or.inl ⟨by rfl, ?y2_1⟩) (by assumption) ?r2_1
        case y2_1 => intro w hSw; (try dsimp only at hSw); have c0 := hSw.2.1; have c1 := hSw.2.2; go_simp; try with_reducible rfl
        try simp only [Act.put, List.setIfInBounds_toArray, List.set_cons_zero, List.set_cons_succ]
        refine wpAnyH_ready (rs := [1, 3]) (by kernel_rfl) (by simp) (AllReadyH.cons (o := { dst := some 20, op := Op.call { callee := Callee.value (Operand.func 69), args := #[Operand.tmp 19], argTypes := #[45] }, type := 45, pos := "hold.go:45", after := #[{ on := 0, ground := Ground.data }], guard := none }) rfl (fun K hK => ?_) (AllReadyH.cons (o := { dst := some 22, op := Op.buildSlice 45 1 #[(0, Operand.tmp 21)], type := 45, pos := "hold.go:45", after := #[{ on := 2, ground := Ground.data }], guard := none }) rfl (fun K hK => ?_) AllReadyH.nil))
        ·
          go_simp
          refine (HCL.out _ hHeld.1).mono ?_; rintro e w3 ⟨u, rfl, hown, hb3⟩; have hlt := World.block_lt_of_cell? _ _ hHeld.2.1
          go_wp2_with fail
          refine hK.out _ _ ?_ (fun hHeld => ?_)
          · (try dsimp only); (go_split_ands; (repeat' apply And.intro) <;> first | assumption | exact Mine.call (by assumption) (by assumption) | exact Mine.alloc (by assumption) _ | exact Mine.setCells (by assumption) _ _ _ (by omega) | exact Mine.callN (by assumption) (by assumption) (by omega) | exact Row.belowN (by assumption) (by assumption) (by omega) | exact there_belowN (by assumption) (by assumption) (by omega) | exact rangeAt_below (by assumption) (by assumption) | exact World.rangeAt_alloc (by assumption) _ | exact World.rangeAt_setCells_apart (by assumption) _ _ _ (Or.inl (by omega)) | exact there_below (by assumption) (by assumption) | exact World.there_alloc (by assumption) _ | exact World.there_setCells (by assumption) _ _ _ | exact Row.belowS (by assumption) (by assumption) | exact Row.alloc (by assumption) _ | exact Row.setCells (by assumption) _ _ (by omega) | exact HS.below (by assumption) (by assumption) | exact SB.below (by assumption) (by assumption) | exact HS.alloc (by assumption) _ | exact Box.call (by assumption) (by assumption) | exact Box.alloc (by assumption) _ | exact Box.put (by assumption) _ (by assumption) | exact cell_below (by assumption) (by assumption) | exact Lib.cell?_alloc_some _ (by assumption))
          clear hK K
          try simp only [Act.put, List.setIfInBounds_toArray, List.set_cons_zero, List.set_cons_succ]
          refine wpAnyH_ready (rs := [3]) (by kernel_rfl) (by simp) (AllReadyH.cons (o := { dst := some 22, op := Op.buildSlice 45 1 #[(0, Operand.tmp 21)], type := 45, pos := "hold.go:45", after := #[{ on := 2, ground := Ground.data }], guard := none }) rfl (fun K hK => ?_) AllReadyH.nil)
          go_simp
          refine hK.out _ _ ?_ (fun hHeld => ?_)
          · (try dsimp only); (go_split_ands; (repeat' apply And.intro) <;> first | assumption | exact Mine.call (by assumption) (by assumption) | exact Mine.alloc (by assumption) _ | exact Mine.setCells (by assumption) _ _ _ (by omega) | exact Mine.callN (by assumption) (by assumption) (by omega) | exact Row.belowN (by assumption) (by assumption) (by omega) | exact there_belowN (by assumption) (by assumption) (by omega) | exact rangeAt_below (by assumption) (by assumption) | exact World.rangeAt_alloc (by assumption) _ | exact World.rangeAt_setCells_apart (by assumption) _ _ _ (Or.inl (by omega)) | exact there_below (by assumption) (by assumption) | exact World.there_alloc (by assumption) _ | exact World.there_setCells (by assumption) _ _ _ | exact Row.belowS (by assumption) (by assumption) | exact Row.alloc (by assumption) _ | exact Row.setCells (by assumption) _ _ (by omega) | exact HS.below (by assumption) (by assumption) | exact SB.below (by assumption) (by assumption) | exact HS.alloc (by assumption) _ | exact Box.call (by assumption) (by assumption) | exact Box.alloc (by assumption) _ | exact Box.put (by assumption) _ (by assumption) | exact cell_below (by assumption) (by assumption) | exact Lib.cell?_alloc_some _ (by assumption))
          clear hK K
          try simp only [Act.put, List.setIfInBounds_toArray, List.set_cons_zero, List.set_cons_succ]
          refine wpAnyH_ready (rs := [4]) (by kernel_rfl) (by simp) (AllReadyH.cons (o := { dst := some 23, op := Op.call { callee := Callee.builtin Builtin.append, args := #[Operand.tmp 20, Operand.tmp 22], argTypes := #[45, 45] }, type := 45, pos := "hold.go:45", after := #[{ on := 1, ground := Ground.data }, { on := 3, ground := Ground.data }, { on := 1, ground := Ground.chain }], guard := none }) rfl (fun K hK => ?_) AllReadyH.nil)
          refine stepP_append rfl (.tmp 20) (.tmp 22) rfl _ u _ hs [(nm, who)] rfl (by first | exact hown.alloc _ | exact hown) rfl (by first | exact PV.one _ _ _ _ | (refine PV.below ?_ hb3; exact PV.one _ _ _ _)) (by simp; omega) (by first | exact hb3.size | exact Nat.le_trans hb3.size (by rw [alloc_size]; omega)) ?_; intro v4 w4 hown4 hg4 hb4; have hq4 : Mine B w w4 := ⟨Nat.le_trans hHeld.1.le hb4.size, hHeld.1.bel.trans (hb4.mono (Nat.le_of_lt hlt))⟩; have hx0 := cell_belowN hHeld.2.1 hb4 hlt; have hx1 := cell_belowN hHeld.2.2 hb4 hlt
          refine hK.out _ _ ?_ (fun hHeld => ?_)
          · (try dsimp only); (go_split_ands; (repeat' apply And.intro) <;> first | assumption | exact Mine.call (by assumption) (by assumption) | exact Mine.alloc (by assumption) _ | exact Mine.setCells (by assumption) _ _ _ (by omega) | exact Mine.callN (by assumption) (by assumption) (by omega) | exact Row.belowN (by assumption) (by assumption) (by omega) | exact there_belowN (by assumption) (by assumption) (by omega) | exact rangeAt_below (by assumption) (by assumption) | exact World.rangeAt_alloc (by assumption) _ | exact World.rangeAt_setCells_apart (by assumption) _ _ _ (Or.inl (by omega)) | exact there_below (by assumption) (by assumption) | exact World.there_alloc (by assumption) _ | exact World.there_setCells (by assumption) _ _ _ | exact Row.belowS (by assumption) (by assumption) | exact Row.alloc (by assumption) _ | exact Row.setCells (by assumption) _ _ (by omega) | exact HS.below (by assumption) (by assumption) | exact SB.below (by assumption) (by assumption) | exact HS.alloc (by assumption) _ | exact Box.call (by assumption) (by assumption) | exact Box.alloc (by assumption) _ | exact Box.put (by assumption) _ (by assumption) | exact cell_below (by assumption) (by assumption) | exact Lib.cell?_alloc_some _ (by assumption))
          clear hK K
          try simp only [Act.put, List.setIfInBounds_toArray, List.set_cons_zero, List.set_cons_succ]
          refine wpAnyH_take (i := 5) (oi := { dst := some 4, op := Op.assign (Operand.tmp 23), type := 45, pos := "hold.go:45", after := #[{ on := 4, ground := Ground.data }, { on := 4, ground := Ground.chain }, { on := 0, ground := Ground.phase }, { on := 1, ground := Ground.phase }, { on := 2, ground := Ground.phase }, { on := 3, ground := Ground.phase }, { on := 4, ground := Ground.phase }], guard := none }) (v := ?v5_2) rfl (by kernel_rfl) (by kernel_rfl) (by kernel_rfl) (fun _ _ _ h => h) (Or.inl ⟨by rfl, ?y5_2⟩) (by assumption) ?r5_2
          case y5_2 => intro w hSw; (try dsimp only at hSw); go_simp; try with_reducible rfl
          try simp only [Act.put, List.setIfInBounds_toArray, List.set_cons_zero, List.set_cons_succ]
          refine wpAnyH_take (i := 6) (oi := { dst := some 5, op := Op.assign (Operand.const (Value.int IntKind.i64 0)), type := 34, pos := "hold.go:45", after := #[{ on := 5, ground := Ground.chain }, { on := 0, ground := Ground.phase }, { on := 1, ground := Ground.phase }, { on := 2, ground := Ground.phase }, { on := 3, ground := Ground.phase }, { on := 4, ground := Ground.phase }, { on := 5, ground := Ground.phase }], guard := none }) (v := ?v6_3) rfl (by kernel_rfl) (by kernel_rfl) (by kernel_rfl) (fun _ _ _ h => h) (Or.inl ⟨by rfl, ?y6_3⟩) (by assumption) ?r6_3
          case y6_3 => intro w hSw; (try dsimp only at hSw); go_simp; try with_reducible rfl
          try simp only [Act.put, List.setIfInBounds_toArray, List.set_cons_zero, List.set_cons_succ]
          refine wpAnyH_done (by kernel_rfl) ?_ _
          refine NoPanic.normal ?_
          have hfin := Lib.hid hHeld.1.bel
          have hown5 := Lib.hid hown4
          go_wp2
          go_ret2
          exact ⟨_, rfl, by rw [hB]; exact hown5.out.mono (Nat.le_of_lt hlt), by rw [hB]; exact hfin.out⟩
        ·
          go_simp
          refine hK.out _ _ ?_ (fun hHeld => ?_)
          · (try dsimp only); (go_split_ands; (repeat' apply And.intro) <;> first | assumption | exact Mine.call (by assumption) (by assumption) | exact Mine.alloc (by assumption) _ | exact Mine.setCells (by assumption) _ _ _ (by omega) | exact Mine.callN (by assumption) (by assumption) (by omega) | exact Row.belowN (by assumption) (by assumption) (by omega) | exact there_belowN (by assumption) (by assumption) (by omega) | exact rangeAt_below (by assumption) (by assumption) | exact World.rangeAt_alloc (by assumption) _ | exact World.rangeAt_setCells_apart (by assumption) _ _ _ (Or.inl (by omega)) | exact there_below (by assumption) (by assumption) | exact World.there_alloc (by assumption) _ | exact World.there_setCells (by assumption) _ _ _ | exact Row.belowS (by assumption) (by assumption) | exact Row.alloc (by assumption) _ | exact Row.setCells (by assumption) _ _ (by omega) | exact HS.below (by assumption) (by assumption) | exact SB.below (by assumption) (by assumption) | exact HS.alloc (by assumption) _ | exact Box.call (by assumption) (by assumption) | exact Box.alloc (by assumption) _ | exact Box.put (by assumption) _ (by assumption) | exact cell_below (by assumption) (by assumption) | exact Lib.cell?_alloc_some _ (by assumption))
          clear hK K
          try simp only [Act.put, List.setIfInBounds_toArray, List.set_cons_zero, List.set_cons_succ]
          refine wpAnyH_ready (rs := [1]) (by kernel_rfl) (by simp) (AllReadyH.cons (o := { dst := some 20, op := Op.call { callee := Callee.value (Operand.func 69), args := #[Operand.tmp 19], argTypes := #[45] }, type := 45, pos := "hold.go:45", after := #[{ on := 0, ground := Ground.data }], guard := none }) rfl (fun K hK => ?_) AllReadyH.nil)
          go_simp
          refine (HCL.out _ hHeld.1).mono ?_; rintro e w3 ⟨u, rfl, hown, hb3⟩; have hlt := World.block_lt_of_cell? _ _ hHeld.2.1
          go_wp2_with fail
          refine hK.out _ _ ?_ (fun hHeld => ?_)
          · (try dsimp only); (go_split_ands; (repeat' apply And.intro) <;> first | assumption | exact Mine.call (by assumption) (by assumption) | exact Mine.alloc (by assumption) _ | exact Mine.setCells (by assumption) _ _ _ (by omega) | exact Mine.callN (by assumption) (by assumption) (by omega) | exact Row.belowN (by assumption) (by assumption) (by omega) | exact there_belowN (by assumption) (by assumption) (by omega) | exact rangeAt_below (by assumption) (by assumption) | exact World.rangeAt_alloc (by assumption) _ | exact World.rangeAt_setCells_apart (by assumption) _ _ _ (Or.inl (by omega)) | exact there_below (by assumption) (by assumption) | exact World.there_alloc (by assumption) _ | exact World.there_setCells (by assumption) _ _ _ | exact Row.belowS (by assumption) (by assumption) | exact Row.alloc (by assumption) _ | exact Row.setCells (by assumption) _ _ (by omega) | exact HS.below (by assumption) (by assumption) | exact SB.below (by assumption) (by assumption) | exact HS.alloc (by assumption) _ | exact Box.call (by assumption) (by assumption) | exact Box.alloc (by assumption) _ | exact Box.put (by assumption) _ (by assumption) | exact cell_below (by assumption) (by assumption) | exact Lib.cell?_alloc_some _ (by assumption))
          clear hK K
          try simp only [Act.put, List.setIfInBounds_toArray, List.set_cons_zero, List.set_cons_succ]
          refine wpAnyH_ready (rs := [4]) (by kernel_rfl) (by simp) (AllReadyH.cons (o := { dst := some 23, op := Op.call { callee := Callee.builtin Builtin.append, args := #[Operand.tmp 20, Operand.tmp 22], argTypes := #[45, 45] }, type := 45, pos := "hold.go:45", after := #[{ on := 1, ground := Ground.data }, { on := 3, ground := Ground.data }, { on := 1, ground := Ground.chain }], guard := none }) rfl (fun K hK => ?_) AllReadyH.nil)
          refine stepP_append rfl (.tmp 20) (.tmp 22) rfl _ u _ hs [(nm, who)] rfl (by first | exact hown.alloc _ | exact hown) rfl (by first | exact PV.one _ _ _ _ | (refine PV.below ?_ hb3; exact PV.one _ _ _ _)) (by simp; omega) (by first | exact hb3.size | exact Nat.le_trans hb3.size (by rw [alloc_size]; omega)) ?_; intro v4 w4 hown4 hg4 hb4; have hq4 : Mine B w w4 := ⟨Nat.le_trans hHeld.1.le hb4.size, hHeld.1.bel.trans (hb4.mono (Nat.le_of_lt hlt))⟩; have hx0 := cell_belowN hHeld.2.1 hb4 hlt; have hx1 := cell_belowN hHeld.2.2 hb4 hlt
          refine hK.out _ _ ?_ (fun hHeld => ?_)
          · (try dsimp only); (go_split_ands; (repeat' apply And.intro) <;> first | assumption | exact Mine.call (by assumption) (by assumption) | exact Mine.alloc (by assumption) _ | exact Mine.setCells (by assumption) _ _ _ (by omega) | exact Mine.callN (by assumption) (by assumption) (by omega) | exact Row.belowN (by assumption) (by assumption) (by omega) | exact there_belowN (by assumption) (by assumption) (by omega) | exact rangeAt_below (by assumption) (by assumption) | exact World.rangeAt_alloc (by assumption) _ | exact World.rangeAt_setCells_apart (by assumption) _ _ _ (Or.inl (by omega)) | exact there_below (by assumption) (by assumption) | exact World.there_alloc (by assumption) _ | exact World.there_setCells (by assumption) _ _ _ | exact Row.belowS (by assumption) (by assumption) | exact Row.alloc (by assumption) _ | exact Row.setCells (by assumption) _ _ (by omega) | exact HS.below (by assumption) (by assumption) | exact SB.below (by assumption) (by assumption) | exact HS.alloc (by assumption) _ | exact Box.call (by assumption) (by assumption) | exact Box.alloc (by assumption) _ | exact Box.put (by assumption) _ (by assumption) | exact cell_below (by assumption) (by assumption) | exact Lib.cell?_alloc_some _ (by assumption))
          clear hK K
          try simp only [Act.put, List.setIfInBounds_toArray, List.set_cons_zero, List.set_cons_succ]
          refine wpAnyH_take (i := 5) (oi := { dst := some 4, op := Op.assign (Operand.tmp 23), type := 45, pos := "hold.go:45", after := #[{ on := 4, ground := Ground.data }, { on := 4, ground := Ground.chain }, { on := 0, ground := Ground.phase }, { on := 1, ground := Ground.phase }, { on := 2, ground := Ground.phase }, { on := 3, ground := Ground.phase }, { on := 4, ground := Ground.phase }], guard := none }) (v := ?v5_4) rfl (by kernel_rfl) (by kernel_rfl) (by kernel_rfl) (fun _ _ _ h => h) (Or.inl ⟨by rfl, ?y5_4⟩) (by assumption) ?r5_4
          case y5_4 => intro w hSw; (try dsimp only at hSw); go_simp; try with_reducible rfl
          try simp only [Act.put, List.setIfInBounds_toArray, List.set_cons_zero, List.set_cons_succ]
          refine wpAnyH_take (i := 6) (oi := { dst := some 5, op := Op.assign (Operand.const (Value.int IntKind.i64 0)), type := 34, pos := "hold.go:45", after := #[{ on := 5, ground := Ground.chain }, { on := 0, ground := Ground.phase }, { on := 1, ground := Ground.phase }, { on := 2, ground := Ground.phase }, { on := 3, ground := Ground.phase }, { on := 4, ground := Ground.phase }, { on := 5, ground := Ground.phase }], guard := none }) (v := ?v6_5) rfl (by kernel_rfl) (by kernel_rfl) (by kernel_rfl) (fun _ _ _ h => h) (Or.inl ⟨by rfl, ?y6_5⟩) (by assumption) ?r6_5
          case y6_5 => intro w hSw; (try dsimp only at hSw); go_simp; try with_reducible rfl
          try simp only [Act.put, List.setIfInBounds_toArray, List.set_cons_zero, List.set_cons_succ]
          refine wpAnyH_done (by kernel_rfl) ?_ _
          refine NoPanic.normal ?_
          have hfin := Lib.hid hHeld.1.bel
          have hown5 := Lib.hid hown4
          go_wp2
          go_ret2
          exact ⟨_, rfl, by rw [hB]; exact hown5.out.mono (Nat.le_of_lt hlt), by rw [hB]; exact hfin.out⟩
end Go.Proofs.Ytofdfcngmkkfdaa

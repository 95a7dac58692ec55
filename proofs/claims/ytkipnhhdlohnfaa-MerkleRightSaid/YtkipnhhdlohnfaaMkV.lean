/- MerkleRight. -/
import Derived.RangeFuncNested
import Derived.RangeFuncBound
import Derived.RangeFuncCalls
import Derived.RangeFuncLeaves
import Derived.Shelf.Abstract
import Derived.Shelf.RegionOpen
import Derived.WalkKit
import Derived.OwnWalkIn
import Derived.TacticsInMore
import Derived.LoopNIn
import Derived.LoopIn
import Derived.Outline
import Derived.Lib.Hide
import Derived.Lib.SliceRun
import Derived.IntWalk
import Derived.WalkLawsBesides
import Derived.WalkSpells
import Derived.Laws.BitsAllLaws
import Derived.Lib.ConvBytes
import Derived.Maps.AppendAt
import Derived.Lib.AppendStr
import Derived.Lib.SlBytesConst
import Derived.Laws.AppendOwnNone
import Derived.Laws.OwnMore
import Derived.Laws.BytesArg
import Derived.Deep.RegionHeld3
import Derived.BigQuiet
import Derived.Deep.RegionLaw
import Derived.Deep.QuietTactic
import Derived.Lib.OthersKept
import Derived.Test.YtkipnhhdlohnfaaProg
import Derived.Deep.DeepFit
import Derived.Test.YtkipnhhdlohnfaaMkU
set_option linter.unusedVariables false
set_option linter.unusedSimpArgs false
namespace Go.Proofs.Ytkipnhhdlohnfaa
open Go Go.RowKit Go.Shelf

set_option maxHeartbeats 4000000 in
set_option maxRecDepth 100000 in
theorem merkleRight_walk (u : Value) (ls : List (List UInt8)) (i m : Int) (w : World) (hu : HS w u ls) (hi : (Lit.int .i64 i).wf = true) (hm : (Lit.int .i64 m).wf = true) :
    Calls Try.prog 13 #[u, .int .i64 i, .int .i64 m] w fun e w' => e = .returned (.bool true) ∧ Below w.heap.size w w' := by
  have hf := fun w' hb => few_any _ ls w' (hu.below (W' := w') hb)
  obtain ⟨C, c, hform, hc, -⟩ := hu.form
  subst hform
  by_cases kl : ls.length ≤ 20
  · rw [show decide (ls.length ≤ 20) = true by simp; omega] at hf
    have hp := fun w' hb => proof_any _ ls i w' (hu.below (W' := w') hb) (by omega)
    have hg := fun w' hb => growth_any _ ls m w' (hu.below (W' := w') hb) (by omega)
    have hr := fun w' hb => root_any (ls.length + 1) _ ls w' (Nat.lt_succ_self _) (hu.below (W' := w') hb)
    have HP := Lib.hid hp
    have HG := Lib.hid hg
    have HR := Lib.hid hr
    have HF := Lib.hid hf
    have HU := Lib.hid hu
    clear hf hp hg hr hu
    go_enter Try.func13, Try.ntmps13
    go_wp2_with fail
    refine (awake05_any _).mono ?_
    rintro e w1 ⟨rfl, hb1⟩
    have HB1 := Lib.hid hb1
    clear hb1
    go_wp2_with fail
    refine (HF.out _ HB1.out).mono ?_
    rintro e w2 ⟨rfl, rfl⟩
    go_wp2_with fail
    refine (HP.out _ HB1.out).mono ?_
    rintro e w3 ⟨p, rfl, ho3, hb3⟩
    have HB3 := Lib.hid (below_on hb3 HB1.out)
    have HO3 := Lib.hid ho3.reads
    clear hb3 HB1 ho3
    obtain ⟨B3, hB3⟩ : ∃ B, w3.heap.size = B := ⟨_, rfl⟩
    have hin : ls.length ≤ 9223372036854775807 := by omega
    have HU3 := Lib.hid (HU.out.below HB3.out)
    by_cases h : 0 ≤ i ∧ i < ls.length
    · obtain ⟨j, rfl⟩ : ∃ j : Nat, i = j := ⟨i.toNat, by omega⟩
      have hE : proofE ls (j : Int) = 0 := by unfold proofE; rw [if_pos h]
      have hW : proofW ls (j : Int) = wayL ls j := by unfold proofW; rw [if_pos h, Int.toNat_natCast]
      rw [hE]
      rw [hW] at HO3
      obtain ⟨x, hx⟩ : ∃ x, ls[j]? = some x := ⟨_, List.getElem?_eq_getElem (by omega)⟩
      obtain ⟨x32, -, g, o, rfl, px⟩ := HU3.out.at_ j (by omega) x hx
      have hroot := rootL_length ls HU3.out.1
      have hvr := verB_right ls j x hx
      have hwl := HO3.out
      obtain ⟨P, cp, hpf, -, -⟩ := hwl.form
      subst hpf
      have hv := fun w' hb => verify_any (rootL ls) x ls.length (j : Int) _ (wayL ls j) w' hroot x32 (hwl.below (W' := w') hb) (by omega)
      rw [hvr] at hv
      have ix := info32 x x32
      obtain ⟨ax, hax⟩ : ∃ a, enc8 x = a := ⟨_, rfl⟩
      obtain ⟨ar, har⟩ : ∃ a, enc8 (rootL ls) = a := ⟨_, rfl⟩
      simp only [hax, har] at hv
      rw [hax] at px ix
      have hr := HR.out
      simp only [har] at hr
      have HR1 := Lib.hid hr
      have HVF := Lib.hid hv
      have PX := Lib.hid px
      have IX := Lib.hid ix
      have k0 : (0 : Int) ≤ (j : Int) := by omega
      have k1 : (j : Int) < (ls.length : Int) := by omega
      have k2 : j < ls.length := by omega
      clear hvr hroot hwl hv hr px ix hax har hx x32 hE hW h
      go_wp2_with fail
      have hu := Try.underlying24
      have ix := IX.out
      refine wp_region_noPanic ?_
      refine wp_region_held_drew (S := (fun w' => Mine B3 w3 w' ∧ w'.rangeAt g (o + j * 32) ax)) (by kernel_rfl) ?_ (fun hHeld => ?_)
      · exact ⟨⟨by rw [← hB3]; exact Nat.le_refl _, (Below.refl _ _).drew⟩, (World.rangeAt_drew _ _ _ _).2 PX.out⟩
      refine wpAnyH_take (i := 0) (oi := { dst := some 22, op := Op.move (Operand.tmp 8), type := 34, pos := "law.go:104", after := #[], guard := none }) (v := ?v0_0) rfl (by kernel_rfl) (by kernel_rfl) (by kernel_rfl) (fun _ _ _ h => h) (Or.inl ⟨by rfl, ?y0_0⟩) (by assumption) ?r0_0
      case y0_0 => intro w hSw; (try dsimp only at hSw); go_simp; try with_reducible rfl
      try simp only [Act.put, List.setIfInBounds_toArray, List.set_cons_zero, List.set_cons_succ]
      refine wpAnyH_take (i := 1) (oi := { dst := some 23, op := Op.binOp BinOp.eql 34 (Operand.tmp 22) (Operand.const (Value.int IntKind.i64 0)) 34, type := 4, pos := "law.go:104", after := #[{ on := 0, ground := Ground.data }], guard := none }) (v := ?v1_1) rfl (by kernel_rfl) (by kernel_rfl) (by kernel_rfl) (fun _ _ _ h => h) (Or.inl ⟨by rfl, ?y1_1⟩) (by assumption) ?r1_1
      case y1_1 => intro w hSw; (try dsimp only at hSw); go_simp; try with_reducible rfl
      try simp only [Act.put, List.setIfInBounds_toArray, List.set_cons_zero, List.set_cons_succ]
      refine wpAnyH_take (i := 2) (oi := { dst := some 24, op := Op.move (Operand.tmp 23), type := 4, pos := "law.go:104", after := #[{ on := 1, ground := Ground.data }], guard := none }) (v := ?v2_2) rfl (by kernel_rfl) (by kernel_rfl) (by kernel_rfl) (fun _ _ _ h => h) (Or.inl ⟨by rfl, ?y2_2⟩) (by assumption) ?r2_2
      case y2_2 => intro w hSw; (try dsimp only at hSw); go_simp; try with_reducible rfl
      try simp only [Act.put, List.setIfInBounds_toArray, List.set_cons_zero, List.set_cons_succ]
      refine wpAnyH_take (i := 3) (oi := { dst := some 25, op := Op.move (Operand.tmp 0), type := 29, pos := "law.go:104", after := #[{ on := 2, ground := Ground.guard }], guard := some (2, true) }) (v := ?v3_3) rfl (by kernel_rfl) (by kernel_rfl) (by kernel_rfl) (fun _ _ _ h => h) (Or.inl ⟨by rfl, ?y3_3⟩) (by assumption) ?r3_3
      case y3_3 => intro w hSw; (try dsimp only at hSw); go_simp; try with_reducible rfl
      try simp only [Act.put, List.setIfInBounds_toArray, List.set_cons_zero, List.set_cons_succ]
      refine wpAnyH_take (i := 5) (oi := { dst := some 27, op := Op.move (Operand.tmp 0), type := 29, pos := "law.go:104", after := #[{ on := 2, ground := Ground.guard }], guard := some (2, true) }) (v := ?v5_4) rfl (by kernel_rfl) (by kernel_rfl) (by kernel_rfl) (fun _ _ _ h => h) (Or.inl ⟨by rfl, ?y5_4⟩) (by assumption) ?r5_4
      case y5_4 => intro w hSw; (try dsimp only at hSw); go_simp; try with_reducible rfl
      try simp only [Act.put, List.setIfInBounds_toArray, List.set_cons_zero, List.set_cons_succ]
      refine wpAnyH_take (i := 6) (oi := { dst := some 28, op := Op.call { callee := Callee.builtin Builtin.len, args := #[Operand.tmp 27], argTypes := #[29] }, type := 3, pos := "law.go:104", after := #[{ on := 5, ground := Ground.data }, { on := 2, ground := Ground.guard }], guard := some (2, true) }) (v := ?v6_5) rfl (by kernel_rfl) (by kernel_rfl) (by kernel_rfl) (fun _ _ _ h => h) (Or.inl ⟨by rfl, ?y6_5⟩) (by assumption) ?r6_5
      case y6_5 => intro w hSw; (try dsimp only at hSw); go_simp; try with_reducible rfl
      try simp only [Act.put, List.setIfInBounds_toArray, List.set_cons_zero, List.set_cons_succ]
      refine wpAnyH_take (i := 7) (oi := { dst := some 29, op := Op.move (Operand.tmp 1), type := 3, pos := "law.go:104", after := #[{ on := 2, ground := Ground.guard }], guard := some (2, true) }) (v := ?v7_6) rfl (by kernel_rfl) (by kernel_rfl) (by kernel_rfl) (fun _ _ _ h => h) (Or.inl ⟨by rfl, ?y7_6⟩) (by assumption) ?r7_6
      case y7_6 => intro w hSw; (try dsimp only at hSw); go_simp; try with_reducible rfl
      try simp only [Act.put, List.setIfInBounds_toArray, List.set_cons_zero, List.set_cons_succ]
      refine wpAnyH_take (i := 8) (oi := { dst := some 30, op := Op.move (Operand.tmp 0), type := 29, pos := "law.go:104", after := #[{ on := 2, ground := Ground.guard }], guard := some (2, true) }) (v := ?v8_7) rfl (by kernel_rfl) (by kernel_rfl) (by kernel_rfl) (fun _ _ _ h => h) (Or.inl ⟨by rfl, ?y8_7⟩) (by assumption) ?r8_7
      case y8_7 => intro w hSw; (try dsimp only at hSw); go_simp; try with_reducible rfl
      try simp only [Act.put, List.setIfInBounds_toArray, List.set_cons_zero, List.set_cons_succ]
      refine wpAnyH_take (i := 9) (oi := { dst := some 31, op := Op.move (Operand.tmp 1), type := 3, pos := "law.go:104", after := #[{ on := 2, ground := Ground.guard }], guard := some (2, true) }) (v := ?v9_8) rfl (by kernel_rfl) (by kernel_rfl) (by kernel_rfl) (fun _ _ _ h => h) (Or.inl ⟨by rfl, ?y9_8⟩) (by assumption) ?r9_8
      case y9_8 => intro w hSw; (try dsimp only at hSw); go_simp; try with_reducible rfl
      try simp only [Act.put, List.setIfInBounds_toArray, List.set_cons_zero, List.set_cons_succ]
      refine wpAnyH_take (i := 10) (oi := { dst := some 32, op := Op.indexAddr 29 (Operand.tmp 30) (Operand.tmp 31), type := 0, pos := "law.go:104", after := #[{ on := 8, ground := Ground.data }, { on := 9, ground := Ground.data }, { on := 2, ground := Ground.guard }], guard := some (2, true) }) (v := ?v10_9) rfl (by kernel_rfl) (by kernel_rfl) (by kernel_rfl) (fun _ _ _ h => h) (Or.inl ⟨by rfl, ?y10_9⟩) (by assumption) ?r10_9
      case y10_9 => intro w hSw; (try dsimp only at hSw); go_simp; try with_reducible rfl
      try simp only [Act.put, List.setIfInBounds_toArray, List.set_cons_zero, List.set_cons_succ]
      refine wpAnyH_take (i := 11) (oi := { dst := some 33, op := Op.load 24 (Operand.tmp 32), type := 24, pos := "law.go:104", after := #[{ on := 10, ground := Ground.data }, { on := 2, ground := Ground.guard }], guard := some (2, true) }) (v := _) rfl (by kernel_rfl) (by kernel_rfl) (by kernel_rfl) (fun _ _ _ h => h) (yieldsIf_load_mid (by rfl) _ _ rfl _ _ rfl _ _ (by intro w hSw; (try dsimp only at hSw); go_split_ands; assumption) (by assumption) rfl (by first | assumption | (simp only [*]; done))) (by assumption) ?_
      try simp only [Act.put, List.setIfInBounds_toArray, List.set_cons_zero, List.set_cons_succ]
      refine wpAnyH_take (i := 12) (oi := { dst := some 34, op := Op.move (Operand.tmp 7), type := 29, pos := "law.go:104", after := #[{ on := 2, ground := Ground.guard }], guard := some (2, true) }) (v := ?v12_10) rfl (by kernel_rfl) (by kernel_rfl) (by kernel_rfl) (fun _ _ _ h => h) (Or.inl ⟨by rfl, ?y12_10⟩) (by assumption) ?r12_10
      case y12_10 => intro w hSw; (try dsimp only at hSw); go_simp; try with_reducible rfl
      try simp only [Act.put, List.setIfInBounds_toArray, List.set_cons_zero, List.set_cons_succ]
      refine wpAnyH_ready (rs := [4]) (by kernel_rfl) (by simp) (AllReadyH.cons (o := { dst := some 26, op := Op.call { callee := Callee.value (Operand.func 22), args := #[Operand.tmp 25], argTypes := #[29] }, type := 24, pos := "law.go:104", after := #[{ on := 3, ground := Ground.data }, { on := 2, ground := Ground.chain }, { on := 2, ground := Ground.guard }], guard := some (2, true) }) rfl (fun K hK => ?_) AllReadyH.nil)
      go_simp
      refine (HR1.out _ (below_on (by rw [hB3]; exact hHeld.1.bel) HB3.out)).mono ?_; rintro e w4 ⟨rfl, hb4⟩
      go_wp2_with fail
      refine hK.out _ _ ?_ (fun hHeld => ?_)
      · (try dsimp only); (go_split_ands; (repeat' apply And.intro) <;> first | assumption | exact Mine.call (by assumption) (by assumption) | exact Mine.alloc (by assumption) _ | exact Mine.setCells (by assumption) _ _ _ (by omega) | exact Mine.callN (by assumption) (by assumption) (by omega) | exact Row.belowN (by assumption) (by assumption) (by omega) | exact there_belowN (by assumption) (by assumption) (by omega) | exact rangeAt_below (by assumption) (by assumption) | exact World.rangeAt_alloc (by assumption) _ | exact World.rangeAt_setCells_apart (by assumption) _ _ _ (Or.inl (by omega)) | exact there_below (by assumption) (by assumption) | exact World.there_alloc (by assumption) _ | exact World.there_setCells (by assumption) _ _ _ | exact Row.belowS (by assumption) (by assumption) | exact Row.alloc (by assumption) _ | exact Row.setCells (by assumption) _ _ (by omega) | exact HS.below (by assumption) (by assumption) | exact SB.below (by assumption) (by assumption) | exact HS.alloc (by assumption) _ | exact Box.call (by assumption) (by assumption) | exact Box.alloc (by assumption) _ | exact Box.put (by assumption) _ (by assumption) | exact cell_below (by assumption) (by assumption) | exact Lib.cell?_alloc_some _ (by assumption))
      clear hK K
      try simp only [Act.put, List.setIfInBounds_toArray, List.set_cons_zero, List.set_cons_succ]
      refine wpAnyH_ready (rs := [13]) (by kernel_rfl) (by simp) (AllReadyH.cons (o := { dst := some 35, op := Op.call { callee := Callee.value (Operand.func 35), args := #[Operand.tmp 26, Operand.tmp 28, Operand.tmp 29, Operand.tmp 33, Operand.tmp 34], argTypes := #[24, 3, 3, 24, 29] }, type := 4, pos := "law.go:104", after := #[{ on := 4, ground := Ground.data }, { on := 6, ground := Ground.data }, { on := 7, ground := Ground.data }, { on := 11, ground := Ground.data }, { on := 12, ground := Ground.data }, { on := 4, ground := Ground.chain }, { on := 2, ground := Ground.guard }], guard := some (2, true) }) rfl (fun K hK => ?_) AllReadyH.nil)
      go_simp
      refine (HVF.out _ (by rw [hB3]; exact hHeld.1.bel)).mono ?_; rintro e w5 ⟨rfl, hb5⟩
      go_wp2_with fail
      refine hK.out _ _ ?_ (fun hHeld => ?_)
      · (try dsimp only); (go_split_ands; (repeat' apply And.intro) <;> first | assumption | exact Mine.call (by assumption) (by assumption) | exact Mine.alloc (by assumption) _ | exact Mine.setCells (by assumption) _ _ _ (by omega) | exact Mine.callN (by assumption) (by assumption) (by omega) | exact Row.belowN (by assumption) (by assumption) (by omega) | exact there_belowN (by assumption) (by assumption) (by omega) | exact rangeAt_below (by assumption) (by assumption) | exact World.rangeAt_alloc (by assumption) _ | exact World.rangeAt_setCells_apart (by assumption) _ _ _ (Or.inl (by omega)) | exact there_below (by assumption) (by assumption) | exact World.there_alloc (by assumption) _ | exact World.there_setCells (by assumption) _ _ _ | exact Row.belowS (by assumption) (by assumption) | exact Row.alloc (by assumption) _ | exact Row.setCells (by assumption) _ _ (by omega) | exact HS.below (by assumption) (by assumption) | exact SB.below (by assumption) (by assumption) | exact HS.alloc (by assumption) _ | exact Box.call (by assumption) (by assumption) | exact Box.alloc (by assumption) _ | exact Box.put (by assumption) _ (by assumption) | exact cell_below (by assumption) (by assumption) | exact Lib.cell?_alloc_some _ (by assumption))
      clear hK K
      try simp only [Act.put, List.setIfInBounds_toArray, List.set_cons_zero, List.set_cons_succ]
      refine wpAnyH_take (i := 14) (oi := { dst := some 36, op := Op.unOp UnOp.not 4 (Operand.tmp 35), type := 4, pos := "law.go:104", after := #[{ on := 13, ground := Ground.data }, { on := 2, ground := Ground.guard }], guard := some (2, true) }) (v := ?v14_11) rfl (by kernel_rfl) (by kernel_rfl) (by kernel_rfl) (fun _ _ _ h => h) (Or.inl ⟨by rfl, ?y14_11⟩) (by assumption) ?r14_11
      case y14_11 => intro w hSw; (try dsimp only at hSw); go_simp; try with_reducible rfl
      try simp only [Act.put, List.setIfInBounds_toArray, List.set_cons_zero, List.set_cons_succ]
      refine wpAnyH_take (i := 15) (oi := { dst := some 37, op := Op.pick (Operand.tmp 24) (Operand.tmp 36) (Operand.const (Value.bool false)), type := 4, pos := "law.go:104", after := #[{ on := 2, ground := Ground.data }, { on := 14, ground := Ground.data }], guard := none }) (v := ?v15_12) rfl (by kernel_rfl) (by kernel_rfl) (by kernel_rfl) (fun _ _ _ h => h) (Or.inl ⟨by rfl, ?y15_12⟩) (by assumption) ?r15_12
      case y15_12 => intro w hSw; (try dsimp only at hSw); go_simp; try with_reducible rfl
      try simp only [Act.put, List.setIfInBounds_toArray, List.set_cons_zero, List.set_cons_succ]
      refine wpAnyH_done (by kernel_rfl) ?_ _
      refine NoPanic.normal ?_
      have HBC := Lib.hid (below_on (by rw [hB3]; exact hHeld.1.bel) HB3.out)
      clear hHeld
      go_wp2_with fail
      refine (HG.out _ HBC.out).mono ?_
      rintro e w6 ⟨q, rfl, ho6, hb6⟩
      have HB6 := Lib.hid (below_on hb6 HBC.out)
      have HO6 := Lib.hid ho6.reads
      clear ho6 hb6 HBC
      by_cases hm' : 1 ≤ m ∧ m ≤ ls.length
      · obtain ⟨k, rfl⟩ : ∃ k : Nat, m = k := ⟨m.toNat, by omega⟩
        have hE : growE ls (k : Int) = 0 := by unfold growE; rw [if_pos hm']
        have hW : growW ls (k : Int) = growL ls k true := by unfold growW; rw [if_pos hm', Int.toNat_natCast]
        rw [hE]
        rw [hW] at HO6
        have hgl := HO6.out
        obtain ⟨Q, cq, hqf, -, -⟩ := hgl.form
        subst hqf
        have ka := fun w => sums_runh (some ⟨g, o, none⟩) ls.length c k (by omega) (k : Int) rfl w
        have hu6 := HU.out.below HB6.out
        have ht := hu6.take k (by omega)
        have hlt : (ls.take k).length < ls.length + 1 := by simp; omega
        have h1 := fun w' hb => root_any (ls.length + 1) _ (ls.take k) w' hlt (ht.below (W' := w') hb)
        have hgr := fun w' hb => grown_any (rootL (ls.take k)) (rootL ls) (k : Int) ls.length _ (growL ls k true) w' (rootL_length _ (fun x hx => hu6.1 x (List.mem_of_mem_take hx))) (rootL_length _ hu6.1) (hgl.below (W' := w') hb) (by omega) (by have := growL_size ls.length ls k true (Nat.le_refl _); omega)
        rw [grB_right ls k (by omega) (by omega) (by omega)] at hgr
        have H1 := Lib.hid h1
        have HGR := Lib.hid hgr
        clear h1 hgr hE hW hgl ht hlt hu6
        go_wp2_with fail
        refine (H1.out _ (Below.refl _ _)).mono ?_
        rintro e w7 ⟨rfl, hb7⟩
        have HB7 := Lib.hid (below_on hb7 HB6.out)
        go_wp2_with fail
        refine (HR.out _ HB7.out).mono ?_
        rintro e w8 ⟨rfl, hb8⟩
        have HB8 := Lib.hid (below_on hb8 HB7.out)
        go_wp2_with fail
        refine (HGR.out _ (below_on hb8 hb7)).mono ?_
        rintro e w9 ⟨rfl, hb9⟩
        have HB9 := Lib.hid (below_on hb9 HB8.out)
        go_wp2
        go_ret
        exact ⟨rfl, HB9.out⟩
      · have hE : growE ls m = 1 := by unfold growE; rw [if_neg hm']
        rw [hE]
        clear hE
        go_wp2
        go_ret
        exact ⟨rfl, HB6.out⟩
    · have hE : proofE ls i = 1 := by unfold proofE; rw [if_neg h]
      rw [hE]
      have hp3 := HO3.out
      obtain ⟨P, cp, hpf, -, -⟩ := hp3.form
      subst hpf
      clear hE hp3
      go_wp2_with fail
      refine wp_region_noPanic ?_
      refine wp_region_held_drew (S := (fun w' => Mine B3 w3 w')) (by kernel_rfl) ?_ (fun hHeld => ?_)
      · exact ⟨by rw [← hB3]; exact Nat.le_refl _, (Below.refl _ _).drew⟩
      refine wpAnyH_take (i := 0) (oi := { dst := some 22, op := Op.move (Operand.tmp 8), type := 34, pos := "law.go:104", after := #[], guard := none }) (v := ?v0_13) rfl (by kernel_rfl) (by kernel_rfl) (by kernel_rfl) (fun _ _ _ h => h) (Or.inl ⟨by rfl, ?y0_13⟩) (by assumption) ?r0_13
      case y0_13 => intro w hSw; (try dsimp only at hSw); go_simp; try with_reducible rfl
      try simp only [Act.put, List.setIfInBounds_toArray, List.set_cons_zero, List.set_cons_succ]
      refine wpAnyH_take (i := 1) (oi := { dst := some 23, op := Op.binOp BinOp.eql 34 (Operand.tmp 22) (Operand.const (Value.int IntKind.i64 0)) 34, type := 4, pos := "law.go:104", after := #[{ on := 0, ground := Ground.data }], guard := none }) (v := ?v1_14) rfl (by kernel_rfl) (by kernel_rfl) (by kernel_rfl) (fun _ _ _ h => h) (Or.inl ⟨by rfl, ?y1_14⟩) (by assumption) ?r1_14
      case y1_14 => intro w hSw; (try dsimp only at hSw); go_simp; try with_reducible rfl
      try simp only [Act.put, List.setIfInBounds_toArray, List.set_cons_zero, List.set_cons_succ]
      refine wpAnyH_take (i := 2) (oi := { dst := some 24, op := Op.move (Operand.tmp 23), type := 4, pos := "law.go:104", after := #[{ on := 1, ground := Ground.data }], guard := none }) (v := ?v2_15) rfl (by kernel_rfl) (by kernel_rfl) (by kernel_rfl) (fun _ _ _ h => h) (Or.inl ⟨by rfl, ?y2_15⟩) (by assumption) ?r2_15
      case y2_15 => intro w hSw; (try dsimp only at hSw); go_simp; try with_reducible rfl
      try simp only [Act.put, List.setIfInBounds_toArray, List.set_cons_zero, List.set_cons_succ]
      refine wpAnyH_take (i := 3) (oi := { dst := some 25, op := Op.move (Operand.tmp 0), type := 29, pos := "law.go:104", after := #[{ on := 2, ground := Ground.guard }], guard := some (2, true) }) (v := undef) rfl (by kernel_rfl) (by kernel_rfl) (by kernel_rfl) (fun _ _ _ h => h) (Or.inr ⟨by rfl, rfl⟩) (by assumption) ?_
      try simp only [Act.put, List.setIfInBounds_toArray, List.set_cons_zero, List.set_cons_succ]
      refine wpAnyH_take (i := 4) (oi := { dst := some 26, op := Op.call { callee := Callee.value (Operand.func 22), args := #[Operand.tmp 25], argTypes := #[29] }, type := 24, pos := "law.go:104", after := #[{ on := 3, ground := Ground.data }, { on := 2, ground := Ground.chain }, { on := 2, ground := Ground.guard }], guard := some (2, true) }) (v := undef) rfl (by kernel_rfl) (by kernel_rfl) (by kernel_rfl) (fun _ _ _ h => h) (Or.inr ⟨by rfl, rfl⟩) (by assumption) ?_
      try simp only [Act.put, List.setIfInBounds_toArray, List.set_cons_zero, List.set_cons_succ]
      refine wpAnyH_take (i := 5) (oi := { dst := some 27, op := Op.move (Operand.tmp 0), type := 29, pos := "law.go:104", after := #[{ on := 2, ground := Ground.guard }], guard := some (2, true) }) (v := undef) rfl (by kernel_rfl) (by kernel_rfl) (by kernel_rfl) (fun _ _ _ h => h) (Or.inr ⟨by rfl, rfl⟩) (by assumption) ?_
      try simp only [Act.put, List.setIfInBounds_toArray, List.set_cons_zero, List.set_cons_succ]
      refine wpAnyH_take (i := 6) (oi := { dst := some 28, op := Op.call { callee := Callee.builtin Builtin.len, args := #[Operand.tmp 27], argTypes := #[29] }, type := 3, pos := "law.go:104", after := #[{ on := 5, ground := Ground.data }, { on := 2, ground := Ground.guard }], guard := some (2, true) }) (v := undef) rfl (by kernel_rfl) (by kernel_rfl) (by kernel_rfl) (fun _ _ _ h => h) (Or.inr ⟨by rfl, rfl⟩) (by assumption) ?_
      try simp only [Act.put, List.setIfInBounds_toArray, List.set_cons_zero, List.set_cons_succ]
      refine wpAnyH_take (i := 7) (oi := { dst := some 29, op := Op.move (Operand.tmp 1), type := 3, pos := "law.go:104", after := #[{ on := 2, ground := Ground.guard }], guard := some (2, true) }) (v := undef) rfl (by kernel_rfl) (by kernel_rfl) (by kernel_rfl) (fun _ _ _ h => h) (Or.inr ⟨by rfl, rfl⟩) (by assumption) ?_
      try simp only [Act.put, List.setIfInBounds_toArray, List.set_cons_zero, List.set_cons_succ]
      refine wpAnyH_take (i := 8) (oi := { dst := some 30, op := Op.move (Operand.tmp 0), type := 29, pos := "law.go:104", after := #[{ on := 2, ground := Ground.guard }], guard := some (2, true) }) (v := undef) rfl (by kernel_rfl) (by kernel_rfl) (by kernel_rfl) (fun _ _ _ h => h) (Or.inr ⟨by rfl, rfl⟩) (by assumption) ?_
      try simp only [Act.put, List.setIfInBounds_toArray, List.set_cons_zero, List.set_cons_succ]
      refine wpAnyH_take (i := 9) (oi := { dst := some 31, op := Op.move (Operand.tmp 1), type := 3, pos := "law.go:104", after := #[{ on := 2, ground := Ground.guard }], guard := some (2, true) }) (v := undef) rfl (by kernel_rfl) (by kernel_rfl) (by kernel_rfl) (fun _ _ _ h => h) (Or.inr ⟨by rfl, rfl⟩) (by assumption) ?_
      try simp only [Act.put, List.setIfInBounds_toArray, List.set_cons_zero, List.set_cons_succ]
      refine wpAnyH_take (i := 10) (oi := { dst := some 32, op := Op.indexAddr 29 (Operand.tmp 30) (Operand.tmp 31), type := 0, pos := "law.go:104", after := #[{ on := 8, ground := Ground.data }, { on := 9, ground := Ground.data }, { on := 2, ground := Ground.guard }], guard := some (2, true) }) (v := undef) rfl (by kernel_rfl) (by kernel_rfl) (by kernel_rfl) (fun _ _ _ h => h) (Or.inr ⟨by rfl, rfl⟩) (by assumption) ?_
      try simp only [Act.put, List.setIfInBounds_toArray, List.set_cons_zero, List.set_cons_succ]
      refine wpAnyH_take (i := 11) (oi := { dst := some 33, op := Op.load 24 (Operand.tmp 32), type := 24, pos := "law.go:104", after := #[{ on := 10, ground := Ground.data }, { on := 2, ground := Ground.guard }], guard := some (2, true) }) (v := undef) rfl (by kernel_rfl) (by kernel_rfl) (by kernel_rfl) (fun _ _ _ h => h) (Or.inr ⟨by rfl, rfl⟩) (by assumption) ?_
      try simp only [Act.put, List.setIfInBounds_toArray, List.set_cons_zero, List.set_cons_succ]
      refine wpAnyH_take (i := 12) (oi := { dst := some 34, op := Op.move (Operand.tmp 7), type := 29, pos := "law.go:104", after := #[{ on := 2, ground := Ground.guard }], guard := some (2, true) }) (v := undef) rfl (by kernel_rfl) (by kernel_rfl) (by kernel_rfl) (fun _ _ _ h => h) (Or.inr ⟨by rfl, rfl⟩) (by assumption) ?_
      try simp only [Act.put, List.setIfInBounds_toArray, List.set_cons_zero, List.set_cons_succ]
      refine wpAnyH_take (i := 13) (oi := { dst := some 35, op := Op.call { callee := Callee.value (Operand.func 35), args := #[Operand.tmp 26, Operand.tmp 28, Operand.tmp 29, Operand.tmp 33, Operand.tmp 34], argTypes := #[24, 3, 3, 24, 29] }, type := 4, pos := "law.go:104", after := #[{ on := 4, ground := Ground.data }, { on := 6, ground := Ground.data }, { on := 7, ground := Ground.data }, { on := 11, ground := Ground.data }, { on := 12, ground := Ground.data }, { on := 4, ground := Ground.chain }, { on := 2, ground := Ground.guard }], guard := some (2, true) }) (v := undef) rfl (by kernel_rfl) (by kernel_rfl) (by kernel_rfl) (fun _ _ _ h => h) (Or.inr ⟨by rfl, rfl⟩) (by assumption) ?_
      try simp only [Act.put, List.setIfInBounds_toArray, List.set_cons_zero, List.set_cons_succ]
      refine wpAnyH_take (i := 14) (oi := { dst := some 36, op := Op.unOp UnOp.not 4 (Operand.tmp 35), type := 4, pos := "law.go:104", after := #[{ on := 13, ground := Ground.data }, { on := 2, ground := Ground.guard }], guard := some (2, true) }) (v := undef) rfl (by kernel_rfl) (by kernel_rfl) (by kernel_rfl) (fun _ _ _ h => h) (Or.inr ⟨by rfl, rfl⟩) (by assumption) ?_
      try simp only [Act.put, List.setIfInBounds_toArray, List.set_cons_zero, List.set_cons_succ]
      refine wpAnyH_take (i := 15) (oi := { dst := some 37, op := Op.pick (Operand.tmp 24) (Operand.tmp 36) (Operand.const (Value.bool false)), type := 4, pos := "law.go:104", after := #[{ on := 2, ground := Ground.data }, { on := 14, ground := Ground.data }], guard := none }) (v := ?v15_16) rfl (by kernel_rfl) (by kernel_rfl) (by kernel_rfl) (fun _ _ _ h => h) (Or.inl ⟨by rfl, ?y15_16⟩) (by assumption) ?r15_16
      case y15_16 => intro w hSw; (try dsimp only at hSw); go_simp; try with_reducible rfl
      try simp only [Act.put, List.setIfInBounds_toArray, List.set_cons_zero, List.set_cons_succ]
      refine wpAnyH_done (by kernel_rfl) ?_ _
      refine NoPanic.normal ?_
      have HBC := Lib.hid (below_on (by rw [hB3]; exact hHeld.bel) HB3.out)
      clear hHeld
      go_wp2_with fail
      refine (HG.out _ HBC.out).mono ?_
      rintro e w6 ⟨q, rfl, ho6, hb6⟩
      have HB6 := Lib.hid (below_on hb6 HBC.out)
      have HO6 := Lib.hid ho6.reads
      clear ho6 hb6 HBC
      by_cases hm' : 1 ≤ m ∧ m ≤ ls.length
      · obtain ⟨k, rfl⟩ : ∃ k : Nat, m = k := ⟨m.toNat, by omega⟩
        have hE : growE ls (k : Int) = 0 := by unfold growE; rw [if_pos hm']
        have hW : growW ls (k : Int) = growL ls k true := by unfold growW; rw [if_pos hm', Int.toNat_natCast]
        rw [hE]
        rw [hW] at HO6
        have hgl := HO6.out
        obtain ⟨Q, cq, hqf, -, -⟩ := hgl.form
        subst hqf
        have ka := fun w => sums_runh C ls.length c k (by omega) (k : Int) rfl w
        have hu6 := HU.out.below HB6.out
        have ht := hu6.take k (by omega)
        have hlt : (ls.take k).length < ls.length + 1 := by simp; omega
        have h1 := fun w' hb => root_any (ls.length + 1) _ (ls.take k) w' hlt (ht.below (W' := w') hb)
        have hgr := fun w' hb => grown_any (rootL (ls.take k)) (rootL ls) (k : Int) ls.length _ (growL ls k true) w' (rootL_length _ (fun x hx => hu6.1 x (List.mem_of_mem_take hx))) (rootL_length _ hu6.1) (hgl.below (W' := w') hb) (by omega) (by have := growL_size ls.length ls k true (Nat.le_refl _); omega)
        rw [grB_right ls k (by omega) (by omega) (by omega)] at hgr
        have H1 := Lib.hid h1
        have HGR := Lib.hid hgr
        clear h1 hgr hE hW hgl ht hlt hu6
        go_wp2_with fail
        refine (H1.out _ (Below.refl _ _)).mono ?_
        rintro e w7 ⟨rfl, hb7⟩
        have HB7 := Lib.hid (below_on hb7 HB6.out)
        go_wp2_with fail
        refine (HR.out _ HB7.out).mono ?_
        rintro e w8 ⟨rfl, hb8⟩
        have HB8 := Lib.hid (below_on hb8 HB7.out)
        go_wp2_with fail
        refine (HGR.out _ (below_on hb8 hb7)).mono ?_
        rintro e w9 ⟨rfl, hb9⟩
        have HB9 := Lib.hid (below_on hb9 HB8.out)
        go_wp2
        go_ret
        exact ⟨rfl, HB9.out⟩
      · have hE : growE ls m = 1 := by unfold growE; rw [if_neg hm']
        rw [hE]
        clear hE
        go_wp2
        go_ret
        exact ⟨rfl, HB6.out⟩
  · rw [show decide (ls.length ≤ 20) = false by simp; omega] at hf
    have HF := Lib.hid hf
    clear hf hu kl hi hm
    go_enter Try.func13, Try.ntmps13
    go_wp2_with fail
    refine (awake05_any _).mono ?_
    rintro e w1 ⟨rfl, hb1⟩
    have HB1 := Lib.hid hb1
    clear hb1
    go_wp2_with fail
    refine (HF.out _ HB1.out).mono ?_
    rintro e w2 ⟨rfl, rfl⟩
    go_wp2
    go_ret
    exact ⟨rfl, HB1.out⟩
end Go.Proofs.Ytkipnhhdlohnfaa

/- The reference's Stuff and Scan. -/
import Derived.RangeFuncNested
import Derived.RangeFuncBound
import Derived.RangeFuncCalls
import Derived.RangeFuncLeaves
import Derived.Shelf.Abstract
import Derived.Shelf.RegionOpen
import Derived.WalkKit
import Derived.OwnWalkIn
import Derived.TacticsInMore
import Derived.LoopNIn
import Derived.LoopIn
import Derived.Outline
import Derived.Lib.Hide
import Derived.Lib.SliceRun
import Derived.IntWalk
import Derived.WalkLawsBesides
import Derived.WalkSpells
import Derived.Laws.BitsAllLaws
import Derived.Lib.ConvBytes
import Derived.Maps.AppendAt
import Derived.Lib.AppendStr
import Derived.Lib.SlBytesConst
import Derived.Laws.AppendOwnNone
import Derived.Laws.OwnMore
import Derived.Laws.BytesArg
import Derived.Deep.RegionHeld3
import Derived.BigQuiet
import Derived.Deep.RegionLaw
import Derived.Deep.QuietTactic
import Derived.Lib.OthersKept
import Derived.Test.YtlgodokgebjjaaaProg
import Derived.Deep.DeepFit
import Derived.Test.YtlgodokgebjjaaaDoF
set_option linter.unusedVariables false
set_option linter.unusedSimpArgs false
namespace Go.Proofs.Ytlgodokgebjjaaa
open Go Go.RowKit Go.Shelf

theorem SS.below {W W' : World} {v : Value} {ls : List (List UInt8)} (h : SS W v ls) (hb : Below W.heap.size W W') : SS W' v ls := by
  rcases h with h | ⟨ad, c, rfl, h1, h3⟩
  · exact .inl h
  · refine .inr ⟨ad, c, rfl, h1, fun h0 => ?_⟩
    obtain ⟨g, o, rfl, hc⟩ := h3 h0
    refine ⟨g, o, rfl, fun i hi => ?_⟩
    obtain ⟨u, hu, hs⟩ := hc i hi
    exact ⟨u, cell_below hu hb, hs.below hb⟩
theorem SS.at_ {W : World} {A : Option Addr} {n c : Nat} {ls : List (List UInt8)} (h : SS W (.slice A n c) ls) (i : Nat) (x : List UInt8) (hx : ls[i]? = some x) : n = ls.length ∧ ∃ g o u, A = some ⟨g, o, none⟩ ∧ W.cell? ⟨g, o + i, none⟩ = some u ∧ SB W u x := by
  have hi : i < ls.length := (List.getElem?_eq_some_iff.1 hx).1
  obtain ⟨A', c', e, _, h3⟩ := h.form
  cases e
  obtain ⟨g, o, rfl, hc⟩ := h3 (by omega)
  obtain ⟨u, hu, hs⟩ := hc i hi
  rw [hx] at hs
  exact ⟨rfl, g, o, u, rfl, hu, hs⟩
set_option maxRecDepth 100000 in
set_option maxHeartbeats 2000000 in
/-- **the reference's Stuff** -/
theorem qstuff_any (v : Value) (l : List UInt8) (w : World) (hlen : l.length ≤ 500000) (h : SB w v l) :
    Calls Try.prog 19 #[v] w fun e w' => ∃ u, e = .returned u ∧ OB w' w.heap.size u (stuffL l) ∧ Below w.heap.size w w' := by
  obtain ⟨A, c, rfl, -, -, -⟩ := h.form
  have hcl := qclose_any _ l w (by omega) h
  obtain ⟨L, hL⟩ : ∃ L, l.length = L := ⟨_, rfl⟩
  rw [hL] at hlen hcl ⊢
  have HCL := Lib.hid hcl
  have HL := Lib.hid hL
  clear h hcl hL
  go_enter Try.func19, Try.ntmps19
  go_wp2_with fail
  refine HCL.out.mono ?_
  rintro e w1 ⟨u, rfl, ho, hb1⟩
  have hcll := closeL_len l
  have hql := qlines_any u (closeL l) w1 (by have := HL.out; omega) ho.reads
  obtain ⟨A1, c1, rfl, -, -, -⟩ := ho.reads.form
  have HQL := Lib.hid hql
  have HB1 := Lib.hid hb1
  obtain ⟨cl, hcl⟩ : ∃ cl, closeL l = cl := ⟨_, rfl⟩
  have HCE := Lib.hid hcl
  have hll : cl.length ≤ 500002 := by rw [← hcl]; have := HL.out; omega
  rw [hcl] at HQL ⊢
  clear ho hql hb1 hcl hcll
  go_wp2_with fail
  refine HQL.out.mono ?_
  rintro e w2 ⟨ls, r, rfl, hss, hb2⟩
  obtain ⟨A2, c2, rfl, hc2, -⟩ := hss.form
  obtain ⟨n, hn⟩ : ∃ n, (lns cl).length = n := ⟨_, rfl⟩
  have hnl := (lns_len cl.length cl (Nat.le_refl _)).1
  have HN := Lib.hid hn
  rw [hn] at hss hc2 hnl ⊢
  have HSS := Lib.hid hss
  have HB2 := Lib.hid (HB1.out.trans (hb2.mono HB1.out.size))
  clear hss hb2 HB1 hn
  obtain ⟨B2, hB2⟩ : ∃ B, w2.heap.size = B := ⟨_, rfl⟩
  go_wp2
  go_loopw [3, 16] (fun out x wr => ∃ k : Nat, (x = .int .i64 (k : Int) ∧ k ≤ n) ∧ Hid (OB wr B2 out (preS cl k)) ∧ Hid (Mine B2 w2 wr)) (fun _ x _ => n - (intOf x).toNat)
  case atStart => exact ⟨0, ⟨rfl, by omega⟩, World.ownsRow_nil _ _ _ _, ⟨by omega, Below.refl _ _⟩⟩
  case round =>
    obtain ⟨k, ⟨rfl, hkn⟩, hown, hm⟩ := hrel
    have hbw : Below w2.heap.size w2 wr := by rw [hB2]; exact hm.out.bel
    obtain ⟨A3, c3, rfl, -, -, -⟩ := hown.out.reads.form
    have hpl := preS_len cl k
    by_cases hlt : k < n
    · obtain ⟨x, hx⟩ : ∃ x, (lns cl)[k]? = some x := ⟨_, List.getElem?_eq_getElem (by rw [HN.out]; exact hlt)⟩
      have hxl := line_len cl x k hx
      have hsn := preS_snoc cl k x hx
      obtain ⟨-, g, o, u, rfl, hu0, hsu0⟩ := HSS.out.at_ k x hx
      have hu := cell_below hu0 hbw
      obtain ⟨A4, c4, rfl, -, -, -⟩ := hsu0.form
      have hsu := hsu0.below hbw
      have HSU0 := Lib.hid hsu0
      obtain ⟨g4, o4, rfl, hc0⟩ := hsu.cellAt 0 (by omega)
      clear hu0 hsu0
      rw [Nat.add_zero o4] at hc0
      have p0 : (0 : Int) < (x.length : Int) := by omega
      have k1 : (k : Int) < (n : Int) := by omega
      have k2 : IntKind.i64.wrap ((k : Int) + 1) = ((k + 1 : Nat) : Int) := by rw [IntWalk.i64_in _ (by omega)]; omega
      obtain ⟨pr, hpr⟩ : ∃ pr, preS cl k = pr := ⟨_, rfl⟩
      rw [hpr] at hsn hown hpl ⊢
      have HSU := Lib.hid hsu
      have HSN := Lib.hid hsn
      have HPL := Lib.hid hpl
      have HXL := Lib.hid hxl
      clear hsu hsn hpl hxl hpr hx hbw
      by_cases hd : gb x 0 = 46
      · have q : ((gb x 0 : Int) == 46) = true := beq_iff_eq.2 (by omega)
        have hst : stuff1 x = [46] ++ x := by unfold stuff1; rw [if_pos hd]; rfl
        have HST := Lib.hid hst
        have hba : Below wr.heap.size wr (wr.alloc (.cells #[.int .u8 46] 5)) := (Below.refl _ _).alloc (Nat.le_refl _) _
        have HO1 := Lib.hid (hown.out.below hba)
        have HLIT := Lib.hid (OB_lit wr #[.int .u8 46] [46] (by simp) rfl).reads
        have HSU1 := Lib.hid (HSU.out.below hba)
        have HM1 := Lib.hid (Mine.call hba hm.out)
        clear hd hst hba
        go_wp2_with (at_builtin; first
          | (refine wpB_append rfl _ _ rfl B2 _ _ pr [46] rfl HO1.out rfl HLIT.out (by have := HPL.out; simp; omega) HM1.out.le ?_; intro v5 w5 hown5 hgrow5 hbel5; obtain ⟨pr2, hpr2⟩ : ∃ q, pr ++ [46] = q := ⟨_, rfl⟩; rw [hpr2] at hown5; have HPR2 := Lib.hid hpr2; obtain ⟨A5, c5, rfl, -, -, -⟩ := hown5.reads.form; have HO5 := Lib.hid hown5; have HM5 := Lib.hid (Mine.callN hbel5 HM1.out (Nat.le_refl B2)); have HG5 := Lib.hid hgrow5; have HSU5 : Hid (SB w5 (.slice (some ⟨g4, o4, none⟩) x.length c4) x) := HSU0.out.below (by rw [hB2]; exact HM5.out.bel); clear hown5 hgrow5 hbel5 hpr2)
          | (refine wpB_append rfl _ _ rfl B2 _ _ pr2 x rfl HO5.out rfl HSU5.out (by have := HPL.out; have := HXL.out; have := congrArg List.length HPR2.out; simp at this; omega) HM5.out.le ?_; intro v6 w6 hown6 hgrow6 hbel6; have HO6 := Lib.hid hown6; have HM6 := Lib.hid (Mine.callN hbel6 HM5.out (Nat.le_refl B2)); clear hown6 hgrow6 hbel6))
        go_roundw
        case rel => exact ⟨k + 1, ⟨by first | rfl | go_num, by omega⟩, by rw [HSN.out, HST.out, ← List.append_assoc, HPR2.out]; exact HO6.out, HM6.out⟩
        case measure => simp [intOf]; omega
      · have q : ((gb x 0 : Int) == 46) = false := beq_eq_false_iff_ne.2 (by omega)
        have hst : stuff1 x = x := by unfold stuff1; rw [if_neg hd]
        have HST := Lib.hid hst
        clear hd hst
        go_wp2_with (at_builtin; refine wpB_append rfl _ _ rfl B2 _ _ pr x rfl hown.out rfl HSU.out (by have := HPL.out; have := HXL.out; omega) hm.out.le ?_; intro v6 w6 hown6 hgrow6 hbel6; have HO6 := Lib.hid hown6; have HM6 := Lib.hid (Mine.callN hbel6 hm.out (Nat.le_refl B2)); clear hown6 hgrow6 hbel6)
        go_roundw
        case rel => exact ⟨k + 1, ⟨by first | rfl | go_num, by omega⟩, by rw [HSN.out, HST.out]; exact HO6.out, HM6.out⟩
        case measure => simp [intOf]; omega
    · obtain rfl : k = n := by omega
      have hfin := preS_all l
      rw [HCE.out, HN.out] at hfin
      obtain ⟨pr, hpr⟩ : ∃ pr, preS cl k = pr := ⟨_, rfl⟩
      rw [hpr] at hfin hown hpl ⊢
      have HFIN := Lib.hid hfin
      have HPL := Lib.hid hpl
      have hba : Below wr.heap.size wr (wr.alloc (.cells #[.int .u8 46, .int .u8 13, .int .u8 10] 5)) := (Below.refl _ _).alloc (Nat.le_refl _) _
      have HO1 := Lib.hid (hown.out.below hba)
      have HLIT := Lib.hid (OB_lit wr #[.int .u8 46, .int .u8 13, .int .u8 10] [46, 13, 10] (by simp) rfl).reads
      have HM1 := Lib.hid (Mine.call hba hm.out)
      clear hba hfin hpl hpr hbw hown hm
      go_wp2_with (at_builtin; refine wpB_append rfl _ _ rfl B2 _ _ pr [46, 13, 10] rfl HO1.out rfl HLIT.out (by have := HPL.out; simp; omega) HM1.out.le ?_; intro v6 w6 hown6 hgrow6 hbel6; have HO6 := Lib.hid hown6; have HM6 := Lib.hid (Mine.callN hbel6 HM1.out (Nat.le_refl B2)); clear hown6 hgrow6 hbel6)
      go_ret
      have hle : w.heap.size ≤ B2 := by rw [← hB2]; exact HB2.out.size
      exact ⟨_, rfl, by rw [← HFIN.out]; exact OB.mono HO6.out hle, HB2.out.trans (HM6.out.bel.mono hle)⟩
end Go.Proofs.Ytlgodokgebjjaaa

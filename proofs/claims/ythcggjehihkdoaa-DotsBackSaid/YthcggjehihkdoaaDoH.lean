/- The reference's Scan. -/
import Derived.RangeFuncNested
import Derived.RangeFuncBound
import Derived.RangeFuncCalls
import Derived.RangeFuncLeaves
import Derived.Shelf.Abstract
import Derived.Shelf.RegionOpen
import Derived.WalkKit
import Derived.OwnWalkIn
import Derived.TacticsInMore
import Derived.LoopNIn
import Derived.LoopIn
import Derived.Outline
import Derived.Lib.Hide
import Derived.Lib.SliceRun
import Derived.IntWalk
import Derived.WalkLawsBesides
import Derived.WalkSpells
import Derived.Laws.BitsAllLaws
import Derived.Lib.ConvBytes
import Derived.Maps.AppendAt
import Derived.Lib.AppendStr
import Derived.Lib.SlBytesConst
import Derived.Laws.AppendOwnNone
import Derived.Laws.OwnMore
import Derived.Laws.BytesArg
import Derived.Deep.RegionHeld3
import Derived.BigQuiet
import Derived.Deep.RegionLaw
import Derived.Deep.QuietTactic
import Derived.Lib.OthersKept
import Derived.Test.YthcggjehihkdoaaProg
import Derived.Deep.DeepFit
import Derived.Test.YthcggjehihkdoaaDoG
set_option linter.unusedVariables false
set_option linter.unusedSimpArgs false
namespace Go.Proofs.Ythcggjehihkdoaa
open Go Go.RowKit Go.Shelf

set_option maxRecDepth 100000 in
set_option maxHeartbeats 2000000 in
/-- **the reference's Scan** -/
theorem qscan_any (v : Value) (l : List UInt8) (w : World) (hlen : l.length ≤ 2000000) (h : SB w v l) :
    Calls Try.prog 21 #[v] w fun e w' => ∃ u1 u2, e = .returned (.tuple #[u1, u2, .bool (scanB l)]) ∧ SB w' u1 (scanX l) ∧ SB w' u2 (scanR l) ∧ Below w.heap.size w w' := by
  obtain ⟨A, c, rfl, hcap, hcm, -⟩ := h.form
  have hql := qlines_any _ l w (by omega) h
  have HQL := Lib.hid hql
  have HS := Lib.hid h
  obtain ⟨L, hL⟩ : ∃ L, l.length = L := ⟨_, rfl⟩
  have HL := Lib.hid hL
  rw [hL] at hlen hcap HQL HS ⊢
  clear h hql hL
  go_enter Try.func21, Try.ntmps21
  go_wp2_with fail
  refine HQL.out.mono ?_
  rintro e w2 ⟨ls, r, rfl, hss, hb2⟩
  obtain ⟨A2, c2, rfl, hc2, -⟩ := hss.form
  obtain ⟨n, hn⟩ : ∃ n, (lns l).length = n := ⟨_, rfl⟩
  have hnl := (lns_len l.length l (Nat.le_refl _)).1
  have hfl := (lns_len l.length l (Nat.le_refl _)).2
  have HN := Lib.hid hn
  rw [hn] at hss hc2 hnl ⊢
  have HFL := Lib.hid hfl
  have HNL := Lib.hid hnl
  have HSS := Lib.hid hss
  have HB2 := Lib.hid hb2
  clear hss hb2 hn hfl hnl
  obtain ⟨B2, hB2⟩ : ∃ B, w2.heap.size = B := ⟨_, rfl⟩
  go_wp2
  go_loopw [5, 8, 18] (fun out at_ x wr => ∃ k : Nat, (x = .int .i64 (k : Int) ∧ k ≤ n) ∧ at_ = .int .i64 (useU (lns l) k : Nat) ∧ Hid (OB wr B2 out (preU (lns l) k)) ∧ Hid (∀ x ∈ (lns l).take k, x ≠ [46, 13, 10]) ∧ Hid (Mine B2 w2 wr)) (fun _ _ x _ => n - (intOf x).toNat)
  case atStart => exact ⟨0, ⟨rfl, by omega⟩, rfl, World.ownsRow_nil _ _ _ _, fun x hx => by simp at hx, ⟨by omega, Below.refl _ _⟩⟩
  case round =>
    obtain ⟨k, ⟨rfl, hkn⟩, rfl, hown, hno, hm⟩ := hrel
    have hbw : Below w2.heap.size w2 wr := by rw [hB2]; exact hm.out.bel
    obtain ⟨A3, c3, rfl, -, -, -⟩ := hown.out.reads.form
    have hpl := preU_len l k
    have hpl2 := preU_len l (k + 1)
    by_cases hlt : k < n
    · obtain ⟨x, hx⟩ : ∃ x, (lns l)[k]? = some x := ⟨_, List.getElem?_eq_getElem (by rw [HN.out]; exact hlt)⟩
      have hxl := line_len l x k hx
      obtain ⟨p1, p2⟩ := preU_snoc (lns l) k x hx
      obtain ⟨-, g, o, u, rfl, hu0, hsu0⟩ := HSS.out.at_ k x hx
      have hu := cell_below hu0 hbw
      obtain ⟨A4, c4, rfl, -, hc4, -⟩ := hsu0.form
      have hsu := hsu0.below hbw
      obtain ⟨g4, o4, rfl, hc0⟩ := hsu.cellAt 0 (by omega)
      rw [Nat.add_zero o4] at hc0
      have hcv := hsu.str
      have p0 : (0 : Int) < (x.length : Int) := by omega
      have k1 : (k : Int) < (n : Int) := by omega
      have k2 : IntKind.i64.wrap ((k : Int) + 1) = ((k + 1 : Nat) : Int) := by have := HNL.out; have := HL.out; rw [IntWalk.i64_in _ (by omega)]; omega
      have hsum : IntKind.i64.wrap ((useU (lns l) k : Int) + (x.length : Int)) = ((useU (lns l) (k + 1) : Nat) : Int) := by have := HL.out; rw [IntWalk.i64_in _ (by omega), p2]; omega
      obtain ⟨mm, hmm⟩ : ∃ m, useU (lns l) (k + 1) = m := ⟨_, rfl⟩
      obtain ⟨nn, hnn⟩ : ∃ m, useU (lns l) k = m := ⟨_, rfl⟩
      obtain ⟨pr, hpr⟩ : ∃ pr, preU (lns l) k = pr := ⟨_, rfl⟩
      rw [hmm] at hsum p2 hpl2
      rw [hnn] at hsum p2 hpl ⊢
      rw [hpr] at p1 hown hpl ⊢
      have HSU := Lib.hid hsu
      have HP1 := Lib.hid p1
      have HP2 := Lib.hid p2
      have HMM := Lib.hid hmm
      have HPR := Lib.hid hpr
      have HNN := Lib.hid hnn
      have HPL := Lib.hid hpl
      have HPL2 := Lib.hid hpl2
      have HXL := Lib.hid hxl
      have HX := Lib.hid hx
      have HBW := Lib.hid hbw
      have HOWN := Lib.hid hown.out
      have hnext : Hid (x ≠ [46, 13, 10] → ∀ y ∈ (lns l).take (k + 1), y ≠ [46, 13, 10]) := fun hT y hy => by
        rw [List.take_add_one, HX.out] at hy
        rcases List.mem_append.1 hy with hy | hy
        · exact hno.out y hy
        · obtain rfl : y = x := by simpa using hy
          exact hT
      clear hsu p1 p2 hmm hpr hnn hpl hpl2 hxl hx hbw hown hu0 hsu0
      by_cases hT : x = [46, 13, 10]
      · have hT2 : (x == [46, 13, 10]) = true := beq_iff_eq.2 hT
        have hsc := scanL_at (lns l) k hno.out (by rw [HX.out, hT])
        have hm3 : mm = useU (lns l) k + 3 := by
          rw [HNN.out, HP2.out, hT]
          rfl
        rw [← hm3, HPR.out] at hsc
        have hml : mm ≤ L := by have := HPL2.out; have := HL.out; omega
        have rB : scanB l = true := by unfold scanB; rw [hsc]; rfl
        have rX : scanX l = pr := by unfold scanX; rw [hsc]
        have rR : scanR l = l.drop mm := by unfold scanR; rw [hsc]
        have RB := Lib.hid rB
        have RX := Lib.hid rX
        have RR := Lib.hid rR
        have kd := fun w => slice_run1 A L c mm hml (mm : Int) rfl (L - mm) (c - mm) rfl rfl w
        have hsl : SB w (.slice (cutA A c mm) (L - mm) (c - mm)) (l.drop mm) := HS.out.cut1 mm (L - mm) (c - mm) (by have := HL.out; omega) (by rw [HL.out]) rfl
        have HSL := Lib.hid (hsl.below (HB2.out.trans (HBW.out.mono HB2.out.size)))
        have HBB := Lib.hid (HB2.out.trans (HBW.out.mono HB2.out.size))
        clear hT hsc hm3 rB rX rR hsl hno hnext
        go_wp2
        go_quiet (fail)
        go_wp2
        refine bodyPost_ret (results_tmp3 rfl _ _ _) rfl ?_
        exact ⟨.slice A3 pr.length c3, .slice (cutA A c mm) (L - mm) (c - mm), by rw [RB.out]; rfl, by rw [RX.out]; exact HOWN.out.reads, by rw [RR.out]; exact HSL.out, below_drewN HBB.out _⟩
      · have HT := Lib.hid hT
        have hT2 : (x == [46, 13, 10]) = false := beq_eq_false_iff_ne.2 hT
        clear hT
        by_cases hd : gb x 0 = 46
        · have q : ((gb x 0 : Int) == 46) = true := beq_iff_eq.2 (by omega)
          have hun : unst x = x.drop 1 := by unfold unst; rw [if_pos hd]
          have HUN := Lib.hid hun
          have hcx : x.length ≤ c4 := by
            obtain ⟨_, _, e, h1, _⟩ := HSU.out.form
            cases e
            exact h1
          have hu3 := HSU.out.cut1 1 (x.length - 1) (c4 - 1) (by have := HXL.out; omega) rfl rfl
          have hcut : cutA (some ⟨g4, o4, none⟩) c4 1 = some ⟨g4, o4 + 1, none⟩ := by unfold cutA; rw [if_neg (by have := HXL.out; omega)]; simp only [Option.map_some, Lib.add_plain']
          rw [hcut] at hu3
          have kd := fun w => slice_run1 (some ⟨g4, o4, none⟩) x.length c4 1 (by have := HXL.out; omega) 1 rfl (x.length - 1) (c4 - 1) rfl rfl w
          simp only [hcut] at kd
          obtain ⟨m, hm'⟩ : ∃ m, x.length - 1 = m := ⟨_, rfl⟩
          obtain ⟨d, hdd⟩ : ∃ m, c4 - 1 = m := ⟨_, rfl⟩
          rw [hm', hdd] at hu3
          simp only [hm', hdd] at kd
          have hdl : (x.drop 1).length = m := by rw [List.length_drop]; exact hm'
          have HU3 := Lib.hid hu3
          have HDL := Lib.hid hdl
          have HM1 := Lib.hid hm'
          clear hd hun hu3 hdl hm' hdd hcut
          go_wp2_with (at_builtin; refine wpB_append rfl _ _ rfl B2 _ _ pr (x.drop 1) rfl HOWN.out rfl HU3.out (by have := HPL.out; have := HXL.out; have := HL.out; rw [HDL.out, ← HM1.out]; omega) hm.out.le ?_; intro v6 w6 hown6 hgrow6 hbel6; have HO6 := Lib.hid hown6; have HM6 := Lib.hid (Mine.callN hbel6 hm.out (Nat.le_refl B2)); clear hown6 hgrow6 hbel6)
          go_roundw
          case rel => exact ⟨k + 1, ⟨by first | rfl | go_num, by omega⟩, by rw [HMM.out], by rw [HP1.out, HUN.out]; exact HO6.out, hnext.out HT.out, HM6.out⟩
          case measure => simp [intOf]; omega
        · have q : ((gb x 0 : Int) == 46) = false := beq_eq_false_iff_ne.2 (by omega)
          have hun : unst x = x := by unfold unst; rw [if_neg hd]
          have HUN := Lib.hid hun
          clear hd hun
          go_wp2_with (at_builtin; refine wpB_append rfl _ _ rfl B2 _ _ pr x rfl HOWN.out rfl HSU.out (by have := HPL.out; have := HXL.out; have := HL.out; omega) hm.out.le ?_; intro v6 w6 hown6 hgrow6 hbel6; have HO6 := Lib.hid hown6; have HM6 := Lib.hid (Mine.callN hbel6 hm.out (Nat.le_refl B2)); clear hown6 hgrow6 hbel6)
          go_roundw
          case rel => exact ⟨k + 1, ⟨by first | rfl | go_num, by omega⟩, by rw [HMM.out], by rw [HP1.out, HUN.out]; exact HO6.out, hnext.out HT.out, HM6.out⟩
          case measure => simp [intOf]; omega
    · obtain rfl : k = n := by omega
      have h6 := hno.out
      rw [← HN.out, List.take_length] at h6
      have hsn := scanL_none _ h6
      have rB : scanB l = false := by unfold scanB; rw [hsn]; rfl
      have rX : scanX l = [] := by unfold scanX; rw [hsn]
      have rR : scanR l = l := by unfold scanR; rw [hsn]
      have RB := Lib.hid rB
      have RX := Lib.hid rX
      have RR := Lib.hid rR
      have HBB := Lib.hid (HB2.out.trans (hbw.mono HB2.out.size))
      have HS2 := Lib.hid (HS.out.below HBB.out)
      clear h6 hsn rB rX rR hbw hown hno hm hpl hpl2
      go_wp2
      refine bodyPost_ret (results_tmp3 rfl _ _ _) rfl ?_
      exact ⟨.slice none 0 0, .slice A L c, by rw [RB.out]; rfl, by rw [RX.out]; exact .inl ⟨rfl, rfl⟩, by rw [RR.out]; exact HS2.out, HBB.out⟩
end Go.Proofs.Ythcggjehihkdoaa

/- each: the files in the order of their names. -/
import Derived.RangeFuncNested
import Derived.RangeFuncBound
import Derived.RangeFuncCalls
import Derived.RangeFuncLeaves
import Derived.Shelf.Abstract
import Derived.Shelf.RegionOpen
import Derived.WalkKit
import Derived.OwnWalkIn
import Derived.TacticsInMore
import Derived.LoopNIn
import Derived.LoopIn
import Derived.Outline
import Derived.Lib.Hide
import Derived.Lib.SliceRun
import Derived.IntWalk
import Derived.WalkLawsBesides
import Derived.WalkSpells
import Derived.Laws.BitsAllLaws
import Derived.Lib.ConvBytes
import Derived.Maps.AppendAt
import Derived.Lib.AppendStr
import Derived.Lib.SlBytesConst
import Derived.Laws.AppendOwnNone
import Derived.Laws.OwnMore
import Derived.Laws.BytesArg
import Derived.Deep.RegionHeld3
import Derived.BigQuiet
import Derived.Deep.RegionLaw
import Derived.Deep.QuietTactic
import Derived.Lib.OthersKept
import Derived.Test.YtbcnalabalegfaaProg
import Derived.Deep.DeepFit
import Derived.Maps.OwnOps
import Derived.Maps.OwnIn
import Derived.Maps.Views
import Derived.StringKeys
import Derived.OpenShut
import Derived.Sort.KeysCollected
import Derived.Sort.OwnSorted
import Derived.Sort.MapsRangeIn
import Derived.Test.YtbcnalabalegfaaShelf
import Derived.Test.YtbcnalabalegfaaRangeR
import Derived.Test.YtbcnalabalegfaaTkMath
import Derived.Test.YtbcnalabalegfaaDsL
set_option linter.unusedVariables false
set_option linter.unusedSimpArgs false
namespace Go.Proofs.Ytbcnalabalegfaa
open Go Go.RowKit Go.Shelf Go.Maps Go.WideAt Go.WideMaps
open Go.Proofs (encStr)
attribute [local go_sem] Oper.semAt_some

/-- what the iterator relies on -/
def RdD (B m n : Nat) (g : List UInt8 → Option Nat) (W : World) : Prop := W.cell? ⟨B, 0, none⟩ = some (.map (some m)) ∧ PM 9 litS W m n g
def EncF (x : List UInt8 × Option Nat) (az : Array Value) (M : Nat → Prop) (W : World) : Prop := az = #[encStr x.1, ptrV x.2]
/-- the files by name -/
def byName (g : List UInt8 → Option Nat) (ns : List (List UInt8)) : List (List UInt8 × Option Nat) := ns.map fun x => (x, g x)
theorem OT_cell {W : World} {base : Nat} {A : Option Addr} {k c : Nat} {ss : List (List UInt8)} (h : OT W base (.slice A k c) ss) (i : Nat) (hi : i < ss.length) : ∃ r, A = some ⟨r, 0, none⟩ ∧ W.cell? ⟨r, i, none⟩ = some (encStr ss[i]) := by
  obtain ⟨hl, h2⟩ := h
  rcases h2 with ⟨e, h0⟩ | ⟨r, cap, cur, e, hb, hg, hcap, hm, hs, ht⟩
  · omega
  · cases e
    refine ⟨r, rfl, ?_⟩
    have h1 : (ss.map encStr)[i]? = some (encStr ss[i]) := by simp [hi]
    rw [← ht, List.getElem?_take_of_lt (by omega)] at h1
    simp only [World.cell?, hg]
    simpa using h1
theorem OT_keepOn {n₀ base : Nat} {D : Nat → Prop} {W W' : World} {v : Value} {ss : List (List UInt8)} (h : OT W base v ss) (hk : KeepOn n₀ D W W') (hd : ∀ r, v.ownBlock = some r → D r) : OT W' base v ss := ownsRow_keepOn h hk hd
set_option maxRecDepth 100000 in
set_option maxHeartbeats 8000000 in
/-- **each's iterator** -/
theorem deach1_seq (n₀ P1 B m n : Nat) (g : List UInt8 → Option Nat) (ns : List (List UInt8)) (hup : Up ns) (hmem : ∀ x, x ∈ ns ↔ (g x).isSome = true) (hn : n ≤ 1000000) (hxl : ∀ x ∈ ns, x.length ≤ 1000000) (w : World) (hbox : Boxed w P1 24 (.pointer (some ⟨B, 0, none⟩))) :
    SeqR Try.prog n₀ 22 #[.pointer (some ⟨P1, 0, none⟩)] EncF (byName g ns) (fun b => b = P1) w (RdD B m n g) := by
  intro lp J Jx W D hDb hown hbel hnn hJ hJx hRd hY h0
  obtain ⟨hB1, hB2, hB3⟩ := hown P1 rfl
  have hboxW : Boxed W P1 24 (.pointer (some ⟨B, 0, none⟩)) := hB3.trans hbox
  have hcP := hboxW.cell
  obtain ⟨hcB, Dm, hkm, hmt⟩ := hRd 0 D W h0
  have HSZ := Lib.hid hkm.size_le
  have HKM := Lib.hid hkm
  have HMT := Lib.hid hmt
  have HUP := Lib.hid hup
  have HMEM := Lib.hid hmem
  have HXL := Lib.hid hxl
  have HRD := Lib.hid hRd
  have HY := Lib.hid hY
  have HJ := Lib.hid hJ
  have HDB := Lib.hid hDb
  have HBX := Lib.hid hboxW
  have H0 := Lib.hid h0
  have hmlt := hkm.lt
  clear hkm hmt hup hmem hxl hRd hY hJ hJx hDb hboxW h0 hbox hB3 hown hbel
  refine callsIn_of_wp Try.func22 rfl trivial ?_ rfl
  simp only [Try.ntmps22, List.size_toArray, List.length_cons, List.length_nil, Nat.reduceAdd, Nat.reduceSub, Array.replicate_succ, Array.replicate_zero, List.push_toArray, List.append_toArray, List.nil_append, List.cons_append]
  gi_wp2_with (first | (gi_at_range; refine wpListIn_range_own _ rfl _ 35 rfl 9 39 keyS Try.underlying35 _ m n Dm rfl HKM.out ?_; intro w5 hrg5 hg5 hs5) | gi_in)
  go_frame
  obtain ⟨r, hr⟩ : ∃ r, W.heap.size = r := ⟨_, rfl⟩
  rw [hr] at hrg5 hs5 hmlt hB2 hnn ⊢
  have hg5' := hg5
  have hbe5 : Below r W w5 := (Below.refl r W).grown hg5 (by omega) (fun j hj => by cases hj)
  have hn5 : r ≤ w5.heap.size := by omega
  have HR := Lib.hid hr
  clear hcB hcP hg5 hs5 hg5' HKM
  gi_loopw [3] (fun v wr => ∃ (left : Lit → Bool) (cnt : Nat) (ss : List (List UInt8)), wr.ranges Try.prog 9 ptrR m r n Dm left cnt ∧ ss.length + cnt ≤ Maps.size Dm ∧ OT wr r v ss ∧ Collected Dm left ss ∧ Below r W wr ∧ r ≤ wr.heap.size) (fun _ wr => wr.rangeLeft m r)
  case atStart => exact ⟨_, _, [], hrg5, by simp, World.ownsRow_nil _ _ _ _, Collected.start Dm, hbe5, hn5⟩
  case round =>
    clear hrg5 hbe5 hn5
    obtain ⟨left, cnt, ss, hrg, hcs, hown, hC, hbe, hnr⟩ := hrel
    have hb17 : ss.length + 1 ≤ 1000001 := by have := HSZ.out; omega
    have HBE := Lib.hid hbe
    have HC := Lib.hid hC
    have HOWN := Lib.hid hown
    have HCS := Lib.hid hcs
    have HB17 := Lib.hid hb17
    have HNR := Lib.hid hnr
    clear hbe hC hcs hb17 hnr
    gi_wp2_with (first
      | (gi_at_next; refine wpListIn_next_ranges _ rfl _ rfl 9 keyS ptrR encStr ptrV (fun key kl hk => by obtain ⟨x, hx, _⟩ := Maps.keyOf_str Try.underlying9 hk; exact ⟨x, hx⟩) (fun v y hv => by obtain ⟨o, rfl, _⟩ := ptrR_inv (d := y.1) (ps := y.2) hv; exact ⟨o, rfl⟩) m r n _ _ _ rfl hrg ?_ ?_)
      | gi_in)
    · intro hc0 hl0
      have hss : (ss.mergeSort fun x y => decide (x ≤ y)) = ns := up_unique _ _ (sorted_up ss HC.out.1) HUP.out (fun y => by
        rw [(List.mergeSort_perm ss _).mem_iff, HC.out.2 y, hl0, HMEM.out y]
        have := (HMT.out y).2
        unfold litS at this
        rw [this]; simp)
      have HSS := Lib.hid hss
      clear hss
      rcases hown.2 with ⟨hnil, hx0⟩ | ⟨gr, cap, cur, rfl, hbase, hb, h1, h2, h3, h4⟩
      · have hssn : ss = [] := List.length_eq_zero_iff.1 hx0
        subst hssn
        subst hnil
        have hns : ns = [] := by rw [← HSS.out]; simp
        have hso := fun w => Try.slices_Sort_string_none none 0 w
        have HSO := Lib.hid hso
        have hj0 := HJ.out 0 D W wr H0.out (KeepOn.of_below (by rw [HR.out]; exact HBE.out))
        have HJ0 : Hid (J (byName g ns).length D wr) := by rw [hns]; exact hj0
        clear hso hx0 hown hrg hj0 hns
        gi_wp2_with fail
        refine ⟨trivial, rfl, (callsIn_wide.2 (HSO.out _)).mono ?_⟩
        rintro e w1 ⟨rfl, rfl⟩
        gi_wp2
        gi_loopw [24] (fun i wr => i = .int .i64 0 ∧ wr = w1) (fun _ _ => 0)
        case atStart => exact ⟨rfl, rfl⟩
        case round =>
          obtain ⟨rfl, rfl⟩ := hrel
          gi_wp2
          go_end0
          exact ⟨⟨_, rfl⟩, D, .inl HJ0.out⟩
      · have hH : Sort.Holds encStr wr gr 0 ss.toArray := holds_of_block hb (by simpa using h4)
        have hgl : gr < wr.heap.size := (Array.getElem?_eq_some_iff.1 hb).1
        have hso := Try.slices_Sort_string gr 0 cap ss wr hH hgl (by have := HB17.out; omega)
        rw [HSS.out] at hso
        have hsl : ns.length = ss.length := by rw [← HSS.out]; simp
        have hfin : ∀ (nn : Nat) (os : Array Obj), OT (Sort.grow (Sort.putRow encStr (Sort.ahead wr nn) gr 0 ns.toArray) os) r (.slice (some ⟨gr, 0, none⟩) ns.length cap) ns ∧ Below r W (Sort.grow (Sort.putRow encStr (Sort.ahead wr nn) gr 0 ns.toArray) os) ∧ r ≤ (Sort.grow (Sort.putRow encStr (Sort.ahead wr nn) gr 0 ns.toArray) os).heap.size := by
          intro nn os
          refine ⟨?_, HBE.out.grown (grownBy_sorted _) HNR.out (fun j hj => by cases hj; exact hbase), Nat.le_trans HNR.out (grownBy_sorted (w := wr) (g := gr) (n := nn) (os := os) ns.toArray).size⟩
          have := ownsRow_sorted (n := nn) (os := os) (ts := ns) hsl (show r ≤ gr from hbase) hb h1 h2 h3
          unfold OT
          rw [hsl]
          exact this
        have HSO := Lib.hid hso
        have HFIN := Lib.hid hfin
        have hss1 : ss.length ≤ cap := h1
        rw [← hsl] at HSO ⊢
        have HGR : Hid (r ≤ gr) := hbase
        have hnl : ns.length ≤ 1000001 := by have := HB17.out; omega
        have HNL := Lib.hid hnl
        clear hso hH hown hrg hfin hb h1 h2 h3 h4 hgl hbase hsl hss1 hnl
        gi_wp2_with fail
        refine ⟨trivial, rfl, (callsIn_wide.2 HSO.out).mono ?_⟩
        rintro e w1 ⟨rfl, nn, os, hw1⟩
        have hf := HFIN.out nn os
        rw [← hw1] at hf
        have HF := Lib.hid hf
        clear hf hw1 HSO HFIN
        obtain ⟨k1, hk1⟩ : ∃ q, ns.length = q := ⟨_, rfl⟩
        have HK1 := Lib.hid hk1
        have hkb : k1 ≤ 1000001 := by have := HNL.out; omega
        rw [hk1] at HF ⊢
        clear hk1
        gi_wp2
        have hP1g : P1 < r := by rw [← HR.out]; exact HBX.out.lt
        gi_loopw [24] (fun i wr => ∃ (k : Nat) (D : Nat → Prop), (i = .int .i64 (k : Int) ∧ k ≤ k1) ∧ J k D wr ∧ (∀ b, D b → b < wr.heap.size) ∧ ¬ D P1 ∧ ¬ D gr ∧ Boxed wr P1 24 (.pointer (some ⟨B, 0, none⟩)) ∧ OT wr r (.slice (some ⟨gr, 0, none⟩) k1 cap) ns) (fun i _ => k1 - (intOf i).toNat)
        case atStart =>
          refine ⟨0, D, ⟨rfl, by omega⟩, HJ.out 0 D W w1 H0.out (KeepOn.of_below (by rw [HR.out]; exact HF.out.2.1)), fun b hb => ?_, hB1, fun hd => ?_, boxed_of HBX.out (HF.out.2.1.block P1 hP1g), HF.out.1⟩
          · have := HDB.out b hb; have := HF.out.2.2; have := HR.out; omega
          · have := HDB.out gr hd; have := HGR.out; have := HR.out; omega
        case round =>
          clear HF
          obtain ⟨k, D2, ⟨rfl, hk⟩, hJk, hDb2, hDP, hDg, hbx, hot⟩ := hrel
          by_cases hlt : k < k1
          · have hkl : k < ns.length := by rw [HK1.out]; exact hlt
            obtain ⟨r', hr', hcell⟩ := OT_cell hot k hkl
            obtain rfl : gr = r' := by simpa using hr'
            obtain ⟨hcB, hpm⟩ := HRD.out k D2 wr hJk
            have hcP := hbx.cell
            have hlook := hpm.look (t := 35) (e := 39) keyS Try.underlying35 (fun w => by kernel_rfl) (keyOfS ns[k] (HXL.out _ (List.getElem_mem hkl)))
            obtain ⟨o, ho⟩ : ∃ o, g ns[k] = o := ⟨_, rfl⟩
            rw [ho] at hlook
            have hx : (byName g ns)[k]? = some (ns[k], o) := by unfold byName; rw [List.getElem?_map, List.getElem?_eq_getElem hkl]; simp [ho]
            obtain ⟨nm, hnm⟩ : ∃ q, ns[k] = q := ⟨_, rfl⟩
            rw [hnm] at hx hlook hcell
            obtain ⟨fn, tmps, assign, body, hy, hR⟩ := HY.out k (nm, o) #[encStr nm, ptrV o] D2 (fun b => b = P1 ∨ b = gr) wr hx rfl hJk hDb2 (fun b hb => by
              rcases hb with rfl | rfl
              · exact ⟨hbx.lt, hDP⟩
              · exact ⟨(hot.lt _ rfl).2, hDg⟩)
            have d0 : decide (k < k1) = true := decide_eq_true hlt
            have k0 : (0 : Int) ≤ (k : Int) := by omega
            have k0' : (k : Int) < (k1 : Int) := by omega
            have HBX2 := Lib.hid hbx
            have HOT2 := Lib.hid hot
            clear hx ho hnm hr' hpm hJk hDb2 hDP hDg hbx hot
            gi_wp2
            refine ⟨rfl, hR.mono ?_⟩
            clear hy hR
            rintro e W3 ⟨D3, hD3, hk3, (⟨rfl, hJ3⟩ | ⟨rfl, hJ3⟩)⟩
            · have HJ3 := Lib.hid hJ3
              have HD3 := Lib.hid hD3
              have hbx3 := boxed_keepOn HBX2.out hk3 (.inr (.inl rfl))
              have hot3 := OT_keepOn HOT2.out hk3 (fun r hr => .inr (by simpa [Value.ownBlock] using hr.symm))
              have HBX3 := Lib.hid hbx3
              have HOT3 := Lib.hid hot3
              clear hD3 hk3 hbx3 hot3 hJ3
              gi_wp2
              go_roundw
              case rel => exact ⟨k + 1, D3, ⟨by go_num, by omega⟩, HJ3.out, fun b hb => (HD3.out b hb).1, fun h => (HD3.out _ h).2 (.inl rfl), fun h => (HD3.out _ h).2 (.inr rfl), HBX3.out, HOT3.out⟩
              case measure => simp [intOf]; omega
            · have HJ3 := Lib.hid hJ3
              clear hD3 hk3 hJ3
              gi_wp2
              refine bodyPost_ret (results_none rfl _ _ _) rfl ?_
              exact ⟨⟨_, rfl⟩, _, .inr ⟨_, HJ3.out⟩⟩
          · have hkk : k = k1 := by omega
            subst hkk
            have d0 : decide (k < k) = false := decide_eq_false hlt
            have HJK : Hid (J (byName g ns).length D2 wr) := by unfold byName; rw [List.length_map, HK1.out]; exact hJk
            clear hJk
            gi_wp2
            go_end0
            exact ⟨⟨_, rfl⟩, D2, .inl HJK.out⟩
        
    · intro x o kl yd yp w2 cnt2 hkey hlk hv hat hrg2 hlt hg2 hs2 hen
      obtain ⟨x', ex, rfl, _⟩ := Maps.keyOf_str Try.underlying9 hkey
      obtain rfl : x = x' := encStr_inj ex
      have hown2 : OT w2 r _ ss := World.ownsRow.kept hown hg2 (Or.inr (row_ne_iter hown hrg).symm)
      have hnr2 : r ≤ w2.heap.size := by have := HNR.out; omega
      have hbe2 : Below r W w2 := HBE.out.grown hg2 (by have := HNR.out; omega) (fun j hj => by cases hj; omega)
      have hba : Below w2.heap.size w2 (w2.alloc (.cells #[encStr x] 9)) := (Below.refl _ _).alloc (Nat.le_refl _) _
      have HOA := Lib.hid (hown2.alloc (.cells #[encStr x] 9))
      have HTL := Lib.hid (TS_lit w2 x)
      have HN2 : Hid (r ≤ (w2.alloc (.cells #[encStr x] 9)).heap.size) := Nat.le_trans hnr2 hba.size
      have HBE2 := Lib.hid (hbe2.trans (hba.mono (by omega)))
      have HRG2 := Lib.hid (hrg2.alloc (.cells #[encStr x] 9))
      have HST := Lib.hid (HC.out.step hlk hat)
      have hle1 : wr.rangeLeft m r = cnt := hrg.left_eq
      have HLE1 := Lib.hid hle1
      have HLT := Lib.hid hlt
      have HCS2 : Hid (ss.length + cnt2 + 1 ≤ Maps.size Dm) := by have := HCS.out; show _ ≤ _; omega
      clear hs2 hown2 hbe2 hba hrg2 hkey hlk hv hat hg2 hle1 hlt hown hrg ex
      gi_wp2_with (gi_at_builtin; refine wpTI_append rfl _ _ rfl r _ _ ss [x] rfl HOA.out rfl HTL.out (by simp) (by have := HB17.out; have := HCS2.out; have := HSZ.out; simp; omega) HN2.out ?_; intro v' w3 hown' hg3 hnew3; obtain ⟨s2, hs2⟩ : ∃ q, ss ++ [x] = q := ⟨_, rfl⟩; rw [hs2] at hown'; have HS2 := Lib.hid hs2; have hrg3 := HRG2.out.kept hg3 (row_ne_low HOA.out hmlt) (row_ne_iter HOA.out HRG2.out); have HRG3 := Lib.hid hrg3; have HOWN3 := Lib.hid hown'; have HBE3 := Lib.hid (HBE2.out.grown hg3 HN2.out (fun j hj => (World.ownsRow.lt HOA.out j hj).1)); have HN3 : Hid (r ≤ w3.heap.size) := Nat.le_trans HN2.out hg3.size; clear hown' hg3 hnew3 hs2 hrg3)
      go_roundw
      case rel => exact ⟨_, cnt2, s2, HRG3.out, by rw [← HS2.out]; have := HCS2.out; simp; omega, HOWN3.out, by rw [← HS2.out]; exact HST.out, HBE3.out, HN3.out⟩
      case measure => rw [HRG3.out.left_eq, HLE1.out]; exact HLT.out
end Go.Proofs.Ytbcnalabalegfaa

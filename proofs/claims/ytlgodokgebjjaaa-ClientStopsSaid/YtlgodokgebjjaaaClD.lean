/- replies: an iterator over codes. -/
import Derived.RangeFuncNested
import Derived.RangeFuncBound
import Derived.RangeFuncCalls
import Derived.RangeFuncLeaves
import Derived.Shelf.Abstract
import Derived.Shelf.RegionOpen
import Derived.WalkKit
import Derived.OwnWalkIn
import Derived.TacticsInMore
import Derived.LoopNIn
import Derived.LoopIn
import Derived.Outline
import Derived.Lib.Hide
import Derived.Lib.SliceRun
import Derived.IntWalk
import Derived.WalkLawsBesides
import Derived.WalkSpells
import Derived.Laws.BitsAllLaws
import Derived.Lib.ConvBytes
import Derived.Maps.AppendAt
import Derived.Lib.AppendStr
import Derived.Lib.SlBytesConst
import Derived.Laws.AppendOwnNone
import Derived.Laws.OwnMore
import Derived.Laws.BytesArg
import Derived.Deep.RegionHeld3
import Derived.BigQuiet
import Derived.Deep.RegionLaw
import Derived.Deep.QuietTactic
import Derived.Lib.OthersKept
import Derived.Test.YtlgodokgebjjaaaProg
import Derived.Deep.DeepFit
import Derived.Test.YtlgodokgebjjaaaRange
import Derived.Test.YtlgodokgebjjaaaClC
set_option linter.unusedVariables false
set_option linter.unusedSimpArgs false
namespace Go.Proofs.Ytlgodokgebjjaaa
open Go Go.RowKit Go.Shelf
attribute [local go_sem] Oper.semAt_some

/-- what the iterator hands out -/
def EncN (x : Nat) (az : Array Value) (M : Nat → Prop) (W : World) : Prop := az = #[.int .i64 (x : Int)]
theorem leftOfD_box {w : World} {B n c : Nat} {A : Option Addr} (h : Boxed w B 22 (.slice A n c)) : leftOf w B = n := leftOf_box h
set_option maxRecDepth 100000 in
set_option maxHeartbeats 4000000 in
theorem replies1_seq (n₀ B : Nat) (A : Option Addr) (c : Nat) (l : List UInt8) (hlen : l.length ≤ 4000000) (w₀ w : World) (hw : w₀.heap.size = n₀) (hbw : Below n₀ w₀ w) (hB : n₀ ≤ B) (hml : ML w₀) (hs : SB w₀ (.slice A l.length c) l) (hbox : Boxed w B 22 (.slice A l.length c)) :
    SeqD Try.prog n₀ 71 #[.pointer (some ⟨B, 0, none⟩)] EncN (rps l) (fun b => b = B) w := by
  intro lp J Jx W D hDb hown hbel hn hJ hJx hY h0
  subst hw
  obtain ⟨hB1, hB2, hB3⟩ := hown B rfl
  have hboxW : Boxed W B 22 _ := hB3.trans hbox
  have hbW : Below w₀.heap.size w₀ W := hbw.trans hbel
  refine callsIn_of_wp Try.func71 rfl trivial ?_ rfl
  simp only [Try.ntmps71, List.size_toArray, List.length_cons, List.length_nil, Nat.reduceAdd, Nat.reduceSub, Array.replicate_succ, Array.replicate_zero, List.push_toArray, List.append_toArray, List.nil_append, List.cons_append]
  gi_wp2
  gi_loopw [] (fun wr => ∃ (k : Nat) (D : Nat → Prop) (A' : Option Addr) (c' : Nat) (cur : List UInt8), (cur.length ≤ 4000000 ∧ k ≤ (rps l).length) ∧ Hid ((rps l).drop k = rps cur) ∧ J k D wr ∧ (∀ b, D b → b < wr.heap.size) ∧ ¬ D B ∧ Hid (SB w₀ (.slice A' cur.length c') cur) ∧ Boxed wr B 22 (.slice A' cur.length c') ∧ Below w₀.heap.size w₀ wr ∧ w₀.heap.size ≤ wr.heap.size) (fun wr => leftOf wr B)
  case atStart => exact ⟨0, D, A, c, l, ⟨hlen, Nat.zero_le _⟩, by simp [Hid], h0, hDb, hB1, hs, hboxW, hbW, hn⟩
  case round =>
    obtain ⟨k, D, A', c', cur, ⟨hcl, hkl⟩, hleft, hJk, hDb, hDB, hsk, hbx, hbe, hnn⟩ := hrel
    have hcB := hbx.cell
    have hfB := hbx.frozen
    have hml1 : ML wr := hml.below hbe
    have hre := reply_any A' c' cur wr hcl hml1 (hsk.out.below hbe)
    have HRE := Lib.hid hre
    have HLO := Lib.hid (leftOf_box hbx)
    clear hre
    cases hr : rp cur with
    | none =>
      have hd : (rps l).length = k := by
        have := congrArg List.length hleft.out
        rw [rps_none _ hr, List.length_drop] at this
        simp at this; omega
      rw [hr] at HRE
      gi_wp2_with fail
      refine ⟨trivial, rfl, (callsIn_wide.2 HRE.out).mono ?_⟩
      rintro e w1 ⟨rfl, hb1⟩
      simp only [show rpC none = 0 from rfl, show rpU none = 0 from rfl]
      have hJ2 := hJ _ _ _ _ hJk (KeepOn.of_below hb1)
      gi_wp2
      refine ⟨fun f hf => (by cases hf), ?_⟩
      gi_wp2
      refine bodyPost_ret (results_none rfl _ _ _) rfl ?_
      exact ⟨⟨_, rfl⟩, D, .inl (by rw [hd]; exact hJ2)⟩
    | some p =>
      obtain ⟨C, U⟩ := p
      obtain ⟨hC, hU5, hUl⟩ := rp_code cur C U hr
      have hsp := rps_some cur C U hr
      have hget : (rps l)[k]? = some C := by
        have := congrArg (fun l => l[0]?) hleft.out
        rw [hsp] at this
        simpa [List.getElem?_drop] using this
      have hmore : Hid ((rps l).drop (k + 1) = rps (cur.drop U)) := by
        have := congrArg (List.drop 1) hleft.out
        rw [List.drop_drop, hsp] at this
        exact this
      have hkl2 : k + 1 ≤ (rps l).length := (List.getElem?_eq_some_iff.1 hget).1
      rw [hr] at HRE
      simp only [show rpC (some (C, U)) = C from rfl, show rpU (some (C, U)) = U from rfl] at HRE
      obtain ⟨n, hn⟩ : ∃ n, cur.length = n := ⟨_, rfl⟩
      have HNL := Lib.hid hn
      rw [hn] at hcl hUl HRE hcB HLO hbx
      have hsk2 := hsk.out
      rw [hn] at hsk2
      obtain ⟨m, hm⟩ : ∃ m, n - U = m := ⟨_, rfl⟩
      obtain ⟨d, hd⟩ : ∃ d, c' - U = d := ⟨_, rfl⟩
      have hs5 := hsk2.cut1 U m d (by rw [HNL.out]; exact hUl) (by rw [HNL.out]; exact hm.symm) hd.symm
      have ks := fun w => slice_run1 A' n c' U hUl (U : Int) rfl m d hm.symm hd.symm w
      have hdl : (cur.drop U).length = m := by rw [List.length_drop, HNL.out]; exact hm
      have HDL := Lib.hid hdl
      have HS5 := Lib.hid hs5
      have u0 : ((U : Int) == 0) = false := by simp; omega
      have u0' : (U == 0) = false := by simp; omega
      have u1 : (0 : Int) ≤ (U : Int) := by omega
      have u2 : (U : Int) ≤ (n : Int) := by omega
      have HMM : Hid (m < n) := by show m < n; omega
      clear hr hsp hleft hsk hsk2 hn hs5 hdl hm hd hU5
      gi_wp2_with fail
      refine ⟨trivial, rfl, (callsIn_wide.2 HRE.out).mono ?_⟩
      rintro e w1 ⟨rfl, hb1⟩
      have hJ2 := hJ _ _ _ _ hJk (KeepOn.of_below hb1)
      have hbx2 := boxed_keepOn hbx (KeepOn.of_below (n₀ := w₀.heap.size) (D := fun _ => True) hb1) (.inr trivial)
      have hn2 := Nat.le_trans hnn hb1.size
      have hbe2 := hbe.trans (hb1.mono hnn)
      have hDb2 : ∀ b, D b → b < w1.heap.size := fun b hb => Nat.lt_of_lt_of_le (hDb b hb) hb1.size
      obtain ⟨fn, tmps, assign, body, hy, hR⟩ := hY k C #[.int .i64 (C : Int)] D (fun b => b = B) w1 hget rfl hJ2 hDb2 (fun b h => by subst h; exact ⟨hbx2.lt, hDB⟩)
      clear hget HRE hb1
      gi_wp2
      refine ⟨rfl, hR.mono ?_⟩
      clear hy hR
      rintro e W3 ⟨D3, hD3, hk3, (⟨rfl, hJ3⟩ | ⟨rfl, hJ3⟩)⟩
      · have hn3 : w₀.heap.size ≤ W3.heap.size := Nat.le_trans hn2 hk3.size
        have hbx3 := boxed_keepOn hbx2 hk3 (.inr rfl)
        have hDb3 : ∀ b, D3 b → b < W3.heap.size := fun b h => (hD3 b h).1
        have hbe3 := hbe2.trans (hk3.below hn2)
        have hc3 := hbx3.cell
        have hf3 := hbx3.frozen
        have hDB3 : ¬ D3 B := fun h => (hD3 B h).2 rfl
        have hk4 : KeepOn w₀.heap.size D3 W3 (W3.setCell ⟨B, 0, none⟩ (.slice (cutA A' c' U) m d)) := KeepOn.setCell W3 B _ hB hDB3
        have hbx4 := hbx3.set (.slice (cutA A' c' U) m d)
        have hJ4 := hJ _ _ _ _ hJ3 hk4
        have HB4 := Lib.hid hbx4
        have HK4 := Lib.hid hk4
        have HCB := Lib.hid (leftOf_box hbx4)
        have HJ4 := Lib.hid hJ4
        clear hD3 hbx4 hk4 hJ4 hbx2 hJ2 hJ3 hcB hfB hbx
        gi_wp2
        go_roundw
        case rel => exact ⟨k + 1, D3, cutA A' c' U, d, cur.drop U, ⟨by rw [HDL.out]; have := HMM.out; omega, hkl2⟩, hmore, HJ4.out, (fun b h => Nat.lt_of_lt_of_le (hDb3 b h) HK4.out.size), hDB3, by rw [HDL.out]; exact HS5.out, by rw [HDL.out]; exact HB4.out, hbe3.trans (HK4.out.below hn3), Nat.le_trans hn3 HK4.out.size⟩
        case measure => rw [HCB.out, HLO.out]; exact HMM.out
      · gi_wp2
        refine bodyPost_ret (results_none rfl _ _ _) rfl ?_
        exact ⟨⟨_, rfl⟩, D3, .inr ⟨_, hJ3⟩⟩
end Go.Proofs.Ytlgodokgebjjaaa

/- domains: an iterator over an envelope's domains. -/
import Derived.RangeFuncNested
import Derived.RangeFuncBound
import Derived.RangeFuncCalls
import Derived.RangeFuncLeaves
import Derived.Shelf.Abstract
import Derived.Shelf.RegionOpen
import Derived.WalkKit
import Derived.OwnWalkIn
import Derived.TacticsInMore
import Derived.LoopNIn
import Derived.LoopIn
import Derived.Outline
import Derived.Lib.Hide
import Derived.Lib.SliceRun
import Derived.IntWalk
import Derived.WalkLawsBesides
import Derived.WalkSpells
import Derived.Laws.BitsAllLaws
import Derived.Lib.ConvBytes
import Derived.Maps.AppendAt
import Derived.Lib.AppendStr
import Derived.Lib.SlBytesConst
import Derived.Laws.AppendOwnNone
import Derived.Laws.OwnMore
import Derived.Laws.BytesArg
import Derived.Deep.RegionHeld3
import Derived.BigQuiet
import Derived.Deep.RegionLaw
import Derived.Deep.QuietTactic
import Derived.Lib.OthersKept
import Derived.Test.YtofdfcngmkkfdaaProg
import Derived.Deep.DeepFit
import Derived.Test.YtofdfcngmkkfdaaRange
import Derived.Test.YtofdfcngmkkfdaaHoE
set_option linter.unusedVariables false
set_option linter.unusedSimpArgs false
namespace Go.Proofs.Ytofdfcngmkkfdaa
open Go Go.RowKit Go.Shelf
attribute [local go_sem] Oper.semAt_some

/-- the domain of an address, made small -/
def dmS (s : ByteArray) : ByteArray := ⟨(ofD (bl (fo s))).toArray⟩
def lcS (s : ByteArray) : ByteArray := ⟨(ofA (bl (fo s))).toArray⟩
theorem fo_max {s : ByteArray} (h : s.size ≤ maxLen) : (fo s).size ≤ maxLen := by rw [fo_size]; exact h
theorem ofo_any (s : ByteArray) (h : s.size ≤ maxLen) (w : World) : Calls Try.prog 34 #[.string (fo s)] w fun e w' => e = .returned (.tuple #[.string (lcS s), .string (dmS s)]) ∧ Below w.heap.size w w' := of_any (fo s) (fo_max h) w
theorem rofo_any (s : ByteArray) (h : s.size ≤ maxLen) (w : World) : Calls Try.prog 35 #[.string (fo s)] w fun e w' => e = .returned (.tuple #[.string (lcS s), .string (dmS s)]) ∧ Below w.heap.size w w' := rof_any (fo s) (fo_max h) w
def domsL (fr : ByteArray) (to : List ByteArray) : List ByteArray := dmS fr :: to.map dmS
def EncB (x : ByteArray) (az : Array Value) (M : Nat → Prop) (W : World) : Prop := az = #[.string x]
theorem row_keepOn {n₀ : Nat} {D : Nat → Prop} {W W' : World} {B : Nat} {t : TypeId} {l : List Value} (h : Row W B t l) (hk : KeepOn n₀ D W W') (hd : B < n₀ ∨ D B) : Row W' B t l :=
  (hk.block B h.lt hd).trans h
theorem domains_any (fr : ByteArray) (At : Option Addr) (m ct : Nat) (at_ : Int) (w : World) : Calls Try.prog 75 #[.agg #[.string fr, .slice At m ct, .int .i64 at_]] w fun e w' => e = .returned (.func (.func 87) #[] #[.pointer (some ⟨w.heap.size, 0, none⟩)]) ∧ w.alloc (.cells #[.string fr, .slice At m ct, .int .i64 at_] 33) = w' := by
  go_enter Try.func75, Try.ntmps75
  go_wp2
  go_ret
  exact ⟨rfl, rfl⟩
set_option maxRecDepth 100000 in
set_option maxHeartbeats 4000000 in
theorem domains1_seq (n₀ B : Nat) (fr : ByteArray) (to : List ByteArray) (At : Option Addr) (m ct : Nat) (at_ : Int) (hfr : fr.size ≤ maxLen) (hto : ∀ s ∈ to, s.size ≤ maxLen) (w₀ w : World) (hw : w₀.heap.size = n₀) (hbw : Below n₀ w₀ w) (hB : n₀ ≤ B)
    (hbox : Row w B 33 [.string fr, .slice At m ct, .int .i64 at_]) (hT : TV w₀ (.slice At m ct) to) (hm : to.length = m) (hmax : m ≤ 1000) :
    SeqD Try.prog n₀ 87 #[.pointer (some ⟨B, 0, none⟩)] EncB (domsL fr to) (fun b => b = B) w := by
  intro lp J Jx W D hDb hown hbel hn hJ hJx hY h0
  subst hw
  obtain ⟨hB1, hB2, hB3⟩ := hown B rfl
  have hrow : Row W B 33 [.string fr, .slice At m ct, .int .i64 at_] := hB3.trans hbox
  have hbW : Below w₀.heap.size w₀ W := hbw.trans hbel
  have hget0 : (domsL fr to)[0]? = some (dmS fr) := rfl
  have hgetS : ∀ k (h : k < to.length), (domsL fr to)[k + 1]? = some (dmS to[k]) := fun k h => by
    unfold domsL
    rw [List.getElem?_cons_succ, List.getElem?_map, List.getElem?_eq_getElem h]; rfl
  have hlenD : (domsL fr to).length = m + 1 := by unfold domsL; simp [hm]
  have HF := Lib.hid (fun w => fo_any fr hfr w)
  have HO := Lib.hid (fun w => ofo_any fr hfr w)
  have HT := Lib.hid hT
  have HTO := Lib.hid hto
  have HM := Lib.hid hm
  have HGS := Lib.hid hgetS
  have HLD := Lib.hid hlenD
  obtain ⟨f0, hf0⟩ : ∃ f, fo fr = f := ⟨_, rfl⟩
  obtain ⟨d0, hd0⟩ : ∃ f, dmS fr = f := ⟨_, rfl⟩
  obtain ⟨l0, hl0⟩ : ∃ f, lcS fr = f := ⟨_, rfl⟩
  simp only [hf0, hd0, hl0] at HF HO
  rw [hd0] at hget0
  have c0 := hrow.cell0
  clear hT hto hm hgetS hlenD hf0 hd0 hl0
  refine callsIn_of_wp Try.func87 rfl trivial ?_ rfl
  simp only [Try.ntmps87, List.size_toArray, List.length_cons, List.length_nil, Nat.reduceAdd, Nat.reduceSub, Array.replicate_succ, Array.replicate_zero, List.push_toArray, List.append_toArray, List.nil_append, List.cons_append]
  gi_wp2_with fail
  refine ⟨trivial, rfl, (callsIn_wide.2 (HF.out _)).mono ?_⟩
  rintro e w1 ⟨rfl, hb1⟩
  gi_wp2_with fail
  refine ⟨trivial, rfl, (callsIn_wide.2 (HO.out _)).mono ?_⟩
  rintro e w2 ⟨rfl, hb2⟩
  have hJ2 := hJ _ _ _ _ (hJ _ _ _ _ h0 (KeepOn.of_below hb1)) (KeepOn.of_below hb2)
  have hrow2 := (hrow.belowS hb1).belowS hb2
  have hsz2 : W.heap.size ≤ w2.heap.size := Nat.le_trans hb1.size hb2.size
  have hbe2 : Below w₀.heap.size w₀ w2 := hbW.trans ((hb1.mono hn).trans (hb2.mono (Nat.le_trans hn hb1.size)))
  have hn2 : w₀.heap.size ≤ w2.heap.size := Nat.le_trans hn hsz2
  obtain ⟨fn, tmps, assign, body, hy, hR⟩ := hY 0 d0 #[.string d0] D (fun b => b = B) w2 hget0 rfl hJ2 (fun b h => Nat.lt_of_lt_of_le (hDb b h) hsz2) (fun b h => by subst h; exact ⟨hrow2.lt, hB1⟩)
  clear hget0
  gi_wp2
  refine ⟨rfl, hR.mono ?_⟩
  clear hy hR
  rintro e W3 ⟨D3, hD3, hk3, (⟨rfl, hJ3⟩ | ⟨rfl, hJ3⟩)⟩
  · have hrow3 := row_keepOn hrow2 hk3 (.inr rfl)
    have hbe3 := hbe2.trans (hk3.below hn2)
    have hn3 := Nat.le_trans hn2 hk3.size
    have c1 := hrow3.cell1
    gi_wp2
    gi_loopw [23, 6, 7, 8] (fun i x1 x2 x3 wr => ∃ (k : Nat) (D : Nat → Prop), (i = .int .i64 (k : Int) ∧ k ≤ m) ∧ J (k + 1) D wr ∧ (∀ b, D b → b < wr.heap.size) ∧ ¬ D B ∧ Row wr B 33 [.string fr, .slice At m ct, .int .i64 at_] ∧ Below w₀.heap.size w₀ wr ∧ w₀.heap.size ≤ wr.heap.size) (fun i _ _ _ _ => m - (intOf i).toNat)
    case atStart => exact ⟨0, D3, ⟨rfl, Nat.zero_le _⟩, hJ3, (fun b h => (hD3 b h).1), (fun h => (hD3 B h).2 rfl), hrow3, hbe3, hn3⟩
    case round =>
      clear hJ3 hD3 hk3 hrow3 hbe3 hn3 c1 c0
      obtain ⟨k, D, ⟨rfl, hk⟩, hJk, hDb, hDB, hrow, hbe, hnn⟩ := hrel
      by_cases hlt : k < m
      · have hkc : k < to.length := by rw [HM.out]; exact hlt
        obtain ⟨g, o, rfl, cc⟩ := TV.at_ (HT.out.below hbe) k hkc
        have hzz := HTO.out to[k] (List.getElem_mem hkc)
        have hget := HGS.out k hkc
        obtain ⟨s, hs'⟩ : ∃ s, to[k] = s := ⟨_, rfl⟩
        rw [hs'] at cc hzz hget
        have HFs := Lib.hid (fun w => fo_any s hzz w)
        have HOs := Lib.hid (fun w => ofo_any s hzz w)
        obtain ⟨fs, hfs⟩ : ∃ f, fo s = f := ⟨_, rfl⟩
        obtain ⟨ds, hds⟩ : ∃ f, dmS s = f := ⟨_, rfl⟩
        obtain ⟨ls, hls⟩ : ∃ f, lcS s = f := ⟨_, rfl⟩
        simp only [hfs, hds, hls] at HFs HOs
        rw [hds] at hget
        have e0 : decide (k < m) = true := decide_eq_true hlt
        have k0 : (0 : Int) ≤ (k : Int) := by omega
        have k1 : (k : Int) < (m : Int) := by omega
        clear hs' hzz hfs hds hls
        gi_wp2_with fail
        refine ⟨trivial, rfl, (callsIn_wide.2 (HFs.out _)).mono ?_⟩
        rintro e w4 ⟨rfl, hb4⟩
        gi_wp2_with fail
        refine ⟨trivial, rfl, (callsIn_wide.2 (HOs.out _)).mono ?_⟩
        rintro e w5 ⟨rfl, hb5⟩
        have hJ5 := hJ _ _ _ _ (hJ _ _ _ _ hJk (KeepOn.of_below hb4)) (KeepOn.of_below hb5)
        have hrow5 := (hrow.belowS hb4).belowS hb5
        have hsz5 : wr.heap.size ≤ w5.heap.size := Nat.le_trans hb4.size hb5.size
        have hbe5 : Below w₀.heap.size w₀ w5 := hbe.trans ((hb4.mono hnn).trans (hb5.mono (Nat.le_trans hnn hb4.size)))
        have hn5 : w₀.heap.size ≤ w5.heap.size := Nat.le_trans hnn hsz5
        obtain ⟨fn, tmps, assign, body, hy, hR⟩ := hY (k + 1) ds #[.string ds] D (fun b => b = B) w5 hget rfl hJ5 (fun b h => Nat.lt_of_lt_of_le (hDb b h) hsz5) (fun b h => by subst h; exact ⟨hrow5.lt, hDB⟩)
        clear hget cc
        gi_wp2
        refine ⟨rfl, hR.mono ?_⟩
        clear hy hR
        rintro e W6 ⟨D6, hD6, hk6, (⟨rfl, hJ6⟩ | ⟨rfl, hJ6⟩)⟩
        · have hrow6 := row_keepOn hrow5 hk6 (.inr rfl)
          have hbe6 := hbe5.trans (hk6.below hn5)
          have hn6 := Nat.le_trans hn5 hk6.size
          gi_wp2
          go_roundw
          case rel => exact ⟨k + 1, D6, ⟨by go_num, by omega⟩, hJ6, (fun b h => (hD6 b h).1), (fun h => (hD6 B h).2 rfl), hrow6, hbe6, hn6⟩
          case measure => simp [intOf]; omega
        · gi_wp2
          refine bodyPost_ret (results_none rfl _ _ _) rfl ?_
          exact ⟨⟨_, rfl⟩, D6, .inr ⟨_, hJ6⟩⟩
      · have e0 : decide (k < m) = false := decide_eq_false hlt
        obtain rfl : k = m := by omega
        have hlast := HLD.out
        gi_wp2

        refine bodyPost_end (results_none rfl _ _ _) rfl ?_
        exact ⟨⟨_, rfl⟩, D, .inl (by rw [hlast]; exact hJk)⟩
  · gi_wp2
    refine bodyPost_ret (results_none rfl _ _ _) rfl ?_
    exact ⟨⟨_, rfl⟩, D3, .inr ⟨_, hJ3⟩⟩
end Go.Proofs.Ytofdfcngmkkfdaa

/- lines: an iterator over lines. -/
import Derived.RangeFuncNested
import Derived.RangeFuncBound
import Derived.RangeFuncCalls
import Derived.RangeFuncLeaves
import Derived.Shelf.Abstract
import Derived.Shelf.RegionOpen
import Derived.WalkKit
import Derived.OwnWalkIn
import Derived.TacticsInMore
import Derived.LoopNIn
import Derived.LoopIn
import Derived.Outline
import Derived.Lib.Hide
import Derived.Lib.SliceRun
import Derived.IntWalk
import Derived.WalkLawsBesides
import Derived.WalkSpells
import Derived.Laws.BitsAllLaws
import Derived.Lib.ConvBytes
import Derived.Maps.AppendAt
import Derived.Lib.AppendStr
import Derived.Lib.SlBytesConst
import Derived.Laws.AppendOwnNone
import Derived.Laws.OwnMore
import Derived.Laws.BytesArg
import Derived.Deep.RegionHeld3
import Derived.BigQuiet
import Derived.Deep.RegionLaw
import Derived.Deep.QuietTactic
import Derived.Lib.OthersKept
import Derived.Test.YtlgodokgebjjaaaProg
import Derived.Deep.DeepFit
import Derived.Test.YtlgodokgebjjaaaPtD
import Derived.Test.YtlgodokgebjjaaaRange
import Derived.Test.YtlgodokgebjjaaaDoB
set_option linter.unusedVariables false
set_option linter.unusedSimpArgs false
namespace Go.Proofs.Ytlgodokgebjjaaa
open Go Go.RowKit Go.Shelf
attribute [local go_sem] Oper.semAt_some

/-- the block that a slice lies in -/
def blockOf : Value → Option Nat
  | .slice (some a) _ _ => some a.block
  | _ => none
theorem blockOf_cut (A : Option Addr) (n c lo m d k : Nat) : blockOf (.slice (cutA A c lo) m d) = blockOf (.slice A n k) := by
  unfold cutA
  split
  · cases A <;> rfl
  · cases A with
    | none => rfl
    | some a => unfold blockOf Addr.add; simp only [Option.map_some]; split <;> rfl
theorem SB.block {W : World} {v : Value} {l : List UInt8} (h : SB W v l) (h0 : 0 < l.length) : ∃ g, blockOf v = some g ∧ g < W.heap.size ∧ ∀ W', W'.heap[g]? = W.heap[g]? → SB W' v l := by
  obtain ⟨A, c, rfl, h1, h2, h3⟩ := h.form
  obtain ⟨g, o, rfl, hc⟩ := h3 h0
  refine ⟨g, rfl, World.block_lt_of_cell? W _ (hc 0 h0), fun W' he => ?_⟩
  refine .inr ⟨_, c, rfl, h1, h2, fun _ => ⟨g, o, rfl, fun i hi => ?_⟩⟩
  rw [← hc i hi]
  simp [World.cell?, he]
theorem SB.empty {W : World} {v : Value} {l : List UInt8} (h : SB W v l) (h0 : l.length = 0) (W' : World) : SB W' v l := by
  obtain rfl : l = [] := List.length_eq_zero_iff.1 h0
  rcases h with h | ⟨ad, c, rfl, h1, h2, h3⟩
  · exact .inl h
  · exact .inr ⟨ad, c, rfl, h1, h2, fun h => by simp at h⟩
/-- it lies below n₀ or in the block G -/
def SBK (n₀ : Nat) (G : Option Nat) (W : World) (v : Value) (l : List UInt8) : Prop := SB W v l ∧ (0 < l.length → ∃ g, blockOf v = some g ∧ (g < n₀ ∨ G = some g))
theorem SBK.move {n₀ : Nat} {G : Option Nat} {W W' : World} {v : Value} {l : List UInt8} (h : SBK n₀ G W v l) (hb : ∀ g, g < W.heap.size → (g < n₀ ∨ G = some g) → W'.heap[g]? = W.heap[g]?) : SBK n₀ G W' v l := by
  refine ⟨?_, h.2⟩
  by_cases h0 : 0 < l.length
  · obtain ⟨g, e, hlt, hm⟩ := h.1.block h0
    obtain ⟨g', e', hg⟩ := h.2 h0
    rw [e] at e'
    cases e'
    exact hm W' (hb g hlt hg)
  · exact h.1.empty (by omega) W'
theorem SBK.keep {n₀ : Nat} {G : Option Nat} {M : Nat → Prop} {W W' : World} {v : Value} {l : List UInt8} (h : SBK n₀ G W v l) (hk : KeepOn n₀ M W W') (hM : ∀ g, G = some g → M g) : SBK n₀ G W' v l :=
  h.move fun g hlt hg => hk.block g hlt (hg.imp id (hM g))
theorem SBK.below {n₀ : Nat} {G : Option Nat} {W W' : World} {v : Value} {l : List UInt8} (h : SBK n₀ G W v l) (hb : Below W.heap.size W W') : SBK n₀ G W' v l := ⟨h.1.below hb, h.2⟩
theorem SBK.cut1 {n₀ : Nat} {G : Option Nat} {W : World} {A : Option Addr} {n c : Nat} {l : List UInt8} (h : SBK n₀ G W (.slice A n c) l) (lo m d : Nat) (h1 : lo ≤ l.length) (em : m = l.length - lo) (ed : d = c - lo) : SBK n₀ G W (.slice (cutA A c lo) m d) (l.drop lo) := by
  refine ⟨h.1.cut1 lo m d h1 em ed, fun h0 => ?_⟩
  rw [blockOf_cut A n c lo m d c]
  rw [List.length_drop] at h0
  exact h.2 (by omega)
/-- it lies below n₀ or in a block that M names -/
def SBM (n₀ : Nat) (M : Nat → Prop) (W : World) (v : Value) (l : List UInt8) : Prop := SB W v l ∧ (0 < l.length → ∃ g, blockOf v = some g ∧ (g < n₀ ∨ M g))
theorem SBM.keep {n₀ : Nat} {M : Nat → Prop} {W W' : World} {v : Value} {l : List UInt8} (h : SBM n₀ M W v l) (hk : KeepOn n₀ M W W') : SBM n₀ M W' v l := by
  refine ⟨?_, h.2⟩
  by_cases h0 : 0 < l.length
  · obtain ⟨g, e, hlt, hm⟩ := h.1.block h0
    obtain ⟨g', e', hg⟩ := h.2 h0
    rw [e] at e'
    cases e'
    exact hm W' (hk.block g hlt hg)
  · exact h.1.empty (by omega) W'
/-- what the iterator hands out -/
def EncL (n₀ : Nat) (x : List UInt8) (az : Array Value) (M : Nat → Prop) (W : World) : Prop := ∃ v, az = #[v] ∧ SBM n₀ M W v x
theorem EncL.loop (n₀ : Nat) (x : List UInt8) (az : Array Value) (M : Nat → Prop) (W : World) (l dk : Nat) (r : Loop) (o : Obj) (ds : Option (List Deferred)) (h : EncL n₀ x az M W) (h1 : W.heap[l]? = some (.loop r)) (h2 : W.heap[dk]? = some (.deferred ds)) :
    EncL n₀ x az (fun b => M b ∨ b = l ∨ b = dk) (W.putObj l o) := by
  obtain ⟨v, rfl, hs, hs2⟩ := h
  refine ⟨v, rfl, ?_, fun h0 => by obtain ⟨g, e, hg⟩ := hs2 h0; exact ⟨g, e, hg.imp id .inl⟩⟩
  rcases hs with h | ⟨ad, c, rfl, ha, hb, h3⟩
  · exact .inl h
  · refine .inr ⟨ad, c, rfl, ha, hb, fun h0 => ?_⟩
    obtain ⟨g, o', rfl, hc⟩ := h3 h0
    have hc0 := hc 0 h0
    have hgl : g ≠ l := by rintro rfl; simp [World.cell?, h1] at hc0
    refine ⟨g, o', rfl, fun i hi => ?_⟩
    rw [← hc i hi]
    have he := World.putObj_heap_other (w := W) (o := o) hgl
    simp [World.cell?, he]
set_option maxRecDepth 100000 in
set_option maxHeartbeats 400000 in
theorem lines_any (A : Option Addr) (n c : Nat) (w : World) : Calls Try.prog 69 #[.slice A n c] w fun e w' => e = .returned (.func (.func 100) #[] #[.pointer (some ⟨w.heap.size, 0, none⟩)]) ∧ w.alloc (.cells #[.slice A n c] 22) = w' := by
  go_enter Try.func69, Try.ntmps69
  go_wp2
  go_ret
  exact ⟨rfl, rfl⟩
/-- how much is left in the iterator's own cell -/
def leftOf (w : World) (B : Nat) : Nat := match w.cell? ⟨B, 0, none⟩ with
  | some (.slice _ n _) => n
  | _ => 0
theorem leftOf_box {w : World} {B n c : Nat} {A : Option Addr} (h : Boxed w B 22 (.slice A n c)) : leftOf w B = n := by
  unfold leftOf; rw [h.cell]

set_option maxRecDepth 100000 in
set_option maxHeartbeats 4000000 in
theorem lines1_seq (n₀ B : Nat) (G : Option Nat) (A : Option Addr) (c : Nat) (l : List UInt8) (hlen : l.length ≤ 4000000) (w₀ w : World) (hw : w₀.heap.size = n₀) (hbw : Below n₀ w₀ w) (hB : n₀ ≤ B) (hml : ML w₀) (hs : SBK n₀ G w (.slice A l.length c) l) (hbox : Boxed w B 22 (.slice A l.length c)) (hG : ∀ g, G = some g → g ≠ B) :
    SeqD Try.prog n₀ 100 #[.pointer (some ⟨B, 0, none⟩)] (EncL n₀) (lns l) (fun b => b = B ∨ G = some b) w := by
  intro lp J Jx W D hDb hown hbel hn hJ hJx hY h0
  subst hw
  obtain ⟨hB1, hB2, hB3⟩ := hown B (.inl rfl)
  have hboxW : Boxed W B 22 _ := hB3.trans hbox
  have hbW : Below w₀.heap.size w₀ W := hbw.trans hbel
  have hsW : SBK w₀.heap.size G W (.slice A l.length c) l := hs.move fun g hlt hg => by
    rcases hg with hg | hg
    · exact hbel.block g hg
    · exact (hown g (.inr hg)).2.2
  have kc := fun (w : World) (C : Array Value) (n c : Nat) => Lib.run_convert_bytes_const (P := Try.prog) w 22 5 C n c Try.underlying22 Try.underlying5
  refine callsIn_of_wp Try.func100 rfl trivial ?_ rfl
  simp only [Try.ntmps100, List.size_toArray, List.length_cons, List.length_nil, Nat.reduceAdd, Nat.reduceSub, Array.replicate_succ, Array.replicate_zero, List.push_toArray, List.append_toArray, List.nil_append, List.cons_append]
  gi_wp2
  gi_loopw [] (fun wr => ∃ (k : Nat) (D : Nat → Prop) (A' : Option Addr) (c' : Nat) (cur : List UInt8), (cur.length ≤ 4000000 ∧ c' ≤ 9223372036854775807 ∧ k ≤ (lns l).length) ∧ Hid ((lns l).drop k = lns cur) ∧ J k D wr ∧ (∀ b, D b → b < wr.heap.size) ∧ (∀ b, (b = B ∨ G = some b) → b < wr.heap.size ∧ ¬ D b) ∧ Hid (SBK w₀.heap.size G wr (.slice A' cur.length c') cur) ∧ Boxed wr B 22 (.slice A' cur.length c') ∧ Below w₀.heap.size w₀ wr ∧ w₀.heap.size ≤ wr.heap.size) (fun wr => leftOf wr B)
  case atStart =>
    obtain ⟨A'', c'', e, _, hcm, _⟩ := hs.1.form
    cases e
    exact ⟨0, D, A, c, l, ⟨hlen, hcm, Nat.zero_le _⟩, by simp [Hid], h0, hDb, (fun b hb => ⟨(hown b hb).2.1, (hown b hb).1⟩), hsW, hboxW, hbW, hn⟩
  case round =>
    obtain ⟨k, D, A', c', cur, ⟨hcl, hcm, hkl⟩, hleft, hJk, hDb, hDB, hsk, hbx, hbe, hnn⟩ := hrel
    have hcB := hbx.cell
    have hfB := hbx.frozen
    have hdrop : (lns l)[k]? = (lns cur)[0]? := by rw [← hleft.out, List.getElem?_drop, Nat.add_zero]
    have hba : Below wr.heap.size wr (wr.alloc (.cells #[.int .u8 13, .int .u8 10] 5 (2, 3))) := (Below.refl _ _).alloc (Nat.le_refl _) _
    have hml1 : ML wr := hml.below hbe
    have hix := index_any A' c' cur wr.heap.size 2 _ (hsk.out.1.below hba) hcl (hml1.below hba) (SB_end wr (2, 3))
    have HIX := Lib.hid hix
    have hbx1 : Boxed (wr.alloc (.cells #[.int .u8 13, .int .u8 10] 5 (2, 3))) B 22 (.slice A' cur.length c') := hbx.alloc _
    have hJ1 := hJ _ _ _ _ hJk (KeepOn.of_below hba)
    have hs1 := Lib.hid (hsk.out.below hba)
    have hbe1 : Below w₀.heap.size w₀ (wr.alloc (.cells #[.int .u8 13, .int .u8 10] 5 (2, 3))) := hbe.trans (hba.mono hnn)
    have hn1 : w₀.heap.size ≤ (wr.alloc (.cells #[.int .u8 13, .int .u8 10] 5 (2, 3))).heap.size := Nat.le_trans hnn hba.size
    have hDb1 : ∀ b, D b → b < (wr.alloc (.cells #[.int .u8 13, .int .u8 10] 5 (2, 3))).heap.size := fun b hb => Nat.lt_of_lt_of_le (hDb b hb) hba.size
    have hDB1 : ∀ b, (b = B ∨ G = some b) → b < (wr.alloc (.cells #[.int .u8 13, .int .u8 10] 5 (2, 3))).heap.size ∧ ¬ D b := fun b hb => ⟨Nat.lt_of_lt_of_le (hDB b hb).1 hba.size, (hDB b hb).2⟩
    have hlo := leftOf_box hbx
    have HLO := Lib.hid hlo
    clear hix hJk hDb hDB hsk hbe hnn hlo hba
    rcases index_fl cur with ⟨hno, hi⟩ | ⟨a, b, hab, hi⟩
    · have hd : (lns l).length = k := by
        have := congrArg List.length hleft.out
        rw [lns_none _ hno, List.length_drop] at this
        simp at this; omega
      gi_wp2_with fail
      refine ⟨trivial, rfl, (callsIn_wide.2 HIX.out).mono ?_⟩
      rintro e w1 ⟨rfl, hb1⟩
      rw [show ixL cur = -1 from hi]
      have hJ2 := hJ _ _ _ _ hJ1 (KeepOn.of_below hb1)
      gi_wp2
      refine ⟨fun f hf => (by cases hf), ?_⟩
      gi_wp2
      refine bodyPost_ret (results_none rfl _ _ _) rfl ?_
      exact ⟨⟨_, rfl⟩, D, .inl (by rw [hd]; exact hJ2)⟩
    · have hfl := fl_len hab
      have htk := fl_take hab
      have hsp := lns_some _ _ _ hab
      have hget : (lns l)[k]? = some a := by rw [hdrop, hsp]; rfl
      have hmore : Hid ((lns l).drop (k + 1) = lns b) := by
        have := congrArg (List.drop 1) hleft.out
        rw [List.drop_drop, hsp] at this
        exact this
      have hkl2 : k + 1 ≤ (lns l).length := (List.getElem?_eq_some_iff.1 hget).1
      obtain ⟨q, hq⟩ : ∃ q, a.length - 2 = q := ⟨_, rfl⟩
      obtain ⟨p, hp⟩ : ∃ p, a.length = p := ⟨_, rfl⟩
      rw [hq] at hi
      rw [hp] at hq hfl htk
      have hpl : p ≤ cur.length := by omega
      have hsa := hs1.out.1.cut 0 p
      have x1 : IntKind.i64.wrap ((q : Int) + 2) = (p : Int) := by rw [IntWalk.i64_in _ (by omega)]; omega
      have x2 : ¬ ((q : Int) < 0) := by omega
      have x3 : decide ((q : Int) < 0) = false := decide_eq_false x2
      have hcc : cur.length ≤ c' := by
        obtain ⟨A1, c1, e, h1, _⟩ := hs1.out.1.form
        cases e
        exact h1
      have ka := fun w => slice_runh A' cur.length c' p (by omega) (p : Int) rfl w
      have HFL := Lib.hid hfl
      have HQ := Lib.hid hq
      have HP := Lib.hid hp
      have HTK := Lib.hid htk
      have HI := Lib.hid hi
      clear hfl hq hp hsa hsp htk hi
      have kb := fun w => slice_run1 A' cur.length c' p hpl (p : Int) rfl (cur.length - p) (c' - p) rfl rfl w
      gi_wp2_with fail
      refine ⟨trivial, rfl, (callsIn_wide.2 HIX.out).mono ?_⟩
      rintro e w1 ⟨rfl, hb1⟩
      rw [show ixL cur = (q : Int) from HI.out]
      have hJ2 := hJ _ _ _ _ hJ1 (KeepOn.of_below hb1)
      have hbx2 := boxed_keepOn hbx1 (KeepOn.of_below (n₀ := w₀.heap.size) (D := fun _ => True) hb1) (.inr trivial)
      have hs2 := hs1.out.below hb1
      have hc2 := hbx2.cell
      have hf2 := hbx2.frozen
      have hn2 := Nat.le_trans hn1 hb1.size
      have hbe2 := hbe1.trans (hb1.mono hn1)
      have hDb2 : ∀ b, D b → b < w1.heap.size := fun b hb => Nat.lt_of_lt_of_le (hDb1 b hb) hb1.size
      have hDB2 : ∀ b, (b = B ∨ G = some b) → b < w1.heap.size ∧ ¬ D b := fun b hb => ⟨Nat.lt_of_lt_of_le (hDB1 b hb).1 hb1.size, (hDB1 b hb).2⟩
      have hea : SBM w₀.heap.size (fun b => b = B ∨ G = some b) w1 (.slice A' p c') a := by
        have := hs2.1.take p hpl (.inr trivial)
        rw [HTK.out.1] at this
        refine ⟨this, fun h0 => ?_⟩
        obtain ⟨g, e, hg⟩ := hs2.2 (by have := HFL.out; omega)
        exact ⟨g, by rw [← e]; cases A' <;> rfl, hg.imp id .inr⟩
      obtain ⟨fn, tmps, assign, body, hy, hR⟩ := hY k a #[.slice A' p c'] D (fun b => b = B ∨ G = some b) w1 hget ⟨_, rfl, hea⟩ hJ2 hDb2 hDB2
      clear hget HIX hdrop hleft hb1
      gi_wp2
      refine ⟨rfl, hR.mono ?_⟩
      clear hy hR
      rintro e W3 ⟨D3, hD3, hk3, (⟨rfl, hJ3⟩ | ⟨rfl, hJ3⟩)⟩
      · have hn3 : w₀.heap.size ≤ W3.heap.size := Nat.le_trans hn2 hk3.size
        have hbx3 := boxed_keepOn hbx2 hk3 (.inr (.inl rfl))
        have hs3 := hs2.keep hk3 (fun g hg => .inr hg)
        have hDb3 : ∀ b, D3 b → b < W3.heap.size := fun b h => (hD3 b h).1
        have hbe3 := hbe2.trans (hk3.below hn2)
        have hc3 := hbx3.cell
        have hf3 := hbx3.frozen
        obtain ⟨m, hm⟩ : ∃ m, cur.length - p = m := ⟨_, rfl⟩
        obtain ⟨d, hd⟩ : ∃ m, c' - p = m := ⟨_, rfl⟩
        have hbm : b.length = m := by have := HFL.out.1; omega
        have hs4 : SBK w₀.heap.size G W3 (.slice (cutA A' c' p) m d) b := by
          have := hs3.cut1 p m d hpl hm.symm hd.symm
          rwa [HTK.out.2] at this
        have hDB3 : ¬ D3 B := fun h => (hD3 B h).2 (.inl rfl)
        have hk4 : KeepOn w₀.heap.size D3 W3 (W3.setCell ⟨B, 0, none⟩ (.slice (cutA A' c' p) m d)) := KeepOn.setCell W3 B _ hB hDB3
        have hbx4 := hbx3.set (.slice (cutA A' c' p) m d)
        have hs5 : SBK w₀.heap.size G (W3.setCell ⟨B, 0, none⟩ (.slice (cutA A' c' p) m d)) (.slice (cutA A' c' p) m d) b := hs4.move fun g hlt hg => by
          refine heap_setCell_other W3 ⟨B, 0, none⟩ g _ ?_
          rcases hg with hg | hg
          · exact Nat.ne_of_lt (Nat.lt_of_lt_of_le hg hB)
          · exact hG g hg
        have hJ4 := hJ _ _ _ _ hJ3 hk4
        have hDBn : ∀ x, (x = B ∨ G = some x) → x < (W3.setCell ⟨B, 0, none⟩ (.slice (cutA A' c' p) m d)).heap.size ∧ ¬ D3 x := fun x hx => ⟨Nat.lt_of_lt_of_le (hDB2 x hx).1 (Nat.le_trans hk3.size hk4.size), fun h => (hD3 x h).2 hx⟩
        have HB4 := Lib.hid hbx4
        have HK4 := Lib.hid hk4
        have HS5 := Lib.hid hs5
        have HBM := Lib.hid hbm
        have HCB := Lib.hid (leftOf_box hbx4)
        have HJ4 := Lib.hid hJ4
        have HDN := Lib.hid hDBn
        have hdl : d ≤ 9223372036854775807 := by omega
        rw [hm, hd] at kb
        clear hD3 hbx4 hk4 hs4 hs5 hs3 hbm hDB3 hDBn hJ4 hm hd hs2 hbx2 hbx1 hDB2 hDB1 hJ2 hJ1 hea
        gi_wp2
        go_roundw
        case rel => exact ⟨k + 1, D3, cutA A' c' p, d, b, ⟨by have := HFL.out; omega, hdl, hkl2⟩, hmore, HJ4.out, (fun x h => Nat.lt_of_lt_of_le (hDb3 x h) HK4.out.size), HDN.out, by rw [HBM.out]; exact HS5.out, by rw [HBM.out]; exact HB4.out, hbe3.trans (HK4.out.below hn3), Nat.le_trans hn3 HK4.out.size⟩
        case measure => rw [HCB.out, HLO.out]; have := HFL.out; have := HBM.out; omega
      · gi_wp2
        refine bodyPost_ret (results_none rfl _ _ _) rfl ?_
        exact ⟨⟨_, rfl⟩, D3, .inr ⟨_, hJ3⟩⟩
end Go.Proofs.Ytlgodokgebjjaaa

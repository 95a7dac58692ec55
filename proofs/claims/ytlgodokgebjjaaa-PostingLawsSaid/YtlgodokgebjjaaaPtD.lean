/- between: an iterator over what stands between points. -/
import Derived.RangeFuncNested
import Derived.RangeFuncBound
import Derived.RangeFuncCalls
import Derived.RangeFuncLeaves
import Derived.Shelf.Abstract
import Derived.Shelf.RegionOpen
import Derived.WalkKit
import Derived.OwnWalkIn
import Derived.TacticsInMore
import Derived.LoopNIn
import Derived.LoopIn
import Derived.Outline
import Derived.Lib.Hide
import Derived.Lib.SliceRun
import Derived.IntWalk
import Derived.WalkLawsBesides
import Derived.WalkSpells
import Derived.Laws.BitsAllLaws
import Derived.Lib.ConvBytes
import Derived.Maps.AppendAt
import Derived.Lib.AppendStr
import Derived.Lib.SlBytesConst
import Derived.Laws.AppendOwnNone
import Derived.Laws.OwnMore
import Derived.Laws.BytesArg
import Derived.Deep.RegionHeld3
import Derived.BigQuiet
import Derived.Deep.RegionLaw
import Derived.Deep.QuietTactic
import Derived.Lib.OthersKept
import Derived.Test.YtlgodokgebjjaaaProg
import Derived.Deep.DeepFit
import Derived.Test.YtlgodokgebjjaaaRange
import Derived.Test.YtlgodokgebjjaaaPtC
set_option linter.unusedVariables false
set_option linter.unusedSimpArgs false
namespace Go.Proofs.Ytlgodokgebjjaaa
open Go Go.RowKit Go.Shelf
attribute [local go_sem] Oper.semAt_some

theorem boxed_keepOn {n₀ : Nat} {D : Nat → Prop} {W W' : World} {B : Nat} {t : TypeId} {v : Value} (h : Boxed W B t v) (hk : KeepOn n₀ D W W') (hd : B < n₀ ∨ D B) : Boxed W' B t v :=
  (hk.block B h.lt hd).trans h
theorem results_cellB {fn : Func} {p : Tmp} (h : fn.results = #[.cell p 4]) (tmps : Array Value) {w : World} {B : Nat} {b : Bool} (hp : tmps.getD p undef = .pointer (some ⟨B, 0, none⟩)) (hb : Boxed w B 4 (.bool b)) :
    (results fn tmps).run Try.prog w = .ok (.bool b) w := by
  have hc := hb.cell
  have hp' : tmps[p]?.getD undef = .pointer (some ⟨B, 0, none⟩) := by rw [← Array.getD_eq_getD_getElem?]; exact hp
  simp [results, h, hp', go_sem, hc]
theorem between_any (s : ByteArray) (w : World) : Calls Try.prog 65 #[.string s] w fun e w' => e = .returned (.func (.func 96) #[] #[.pointer (some ⟨w.heap.size, 0, none⟩)]) ∧ w.alloc (.cells #[.string s] 9) = w' := by
  go_enter Try.func65, Try.ntmps65
  go_wp2
  go_ret
  exact ⟨rfl, rfl⟩
def EncS (x : List UInt8) (az : Array Value) (M : Nat → Prop) (W : World) : Prop := ∃ a : ByteArray, az = #[.string a] ∧ bl a = x ∧ a.size ≤ maxLen
/-- the bytes that stand in the iterator's own cell -/
def curOf (w : World) (B : Nat) : Nat := match w.cell? ⟨B, 0, none⟩ with
  | some (.string s) => s.size
  | _ => 0
theorem curOf_box {w : World} {B : Nat} {s : ByteArray} (h : Boxed w B 9 (.string s)) : curOf w B = s.size := by
  unfold curOf; rw [h.cell]

set_option maxRecDepth 100000 in
set_option maxHeartbeats 4000000 in
theorem between1_seq (n₀ B : Nat) (s : ByteArray) (hm : s.size ≤ maxLen) (w₀ w : World) (hw : w₀.heap.size = n₀) (hbw : Below n₀ w₀ w) (hB : n₀ ≤ B) (hbox : Boxed w B 9 (.string s)) :
    SeqD Try.prog n₀ 96 #[.pointer (some ⟨B, 0, none⟩)] EncS (sp (bl s)) (fun b => b = B) w := by
  intro lp J Jx W D hDb hown hbel hn hJ hJx hY h0
  subst hw
  obtain ⟨hB1, hB2, hB3⟩ := hown B rfl
  have hboxW : Boxed W B 9 _ := hB3.trans hbox
  have hbW : Below w₀.heap.size w₀ W := hbw.trans hbel
  refine callsIn_of_wp Try.func96 rfl trivial ?_ rfl
  simp only [Try.ntmps96, List.size_toArray, List.length_cons, List.length_nil, Nat.reduceAdd, Nat.reduceSub, Array.replicate_succ, Array.replicate_zero, List.push_toArray, List.append_toArray, List.nil_append, List.cons_append]
  gi_wp2
  gi_loopw [] (fun wr => ∃ (k : Nat) (D : Nat → Prop) (cur : ByteArray), (k < (sp (bl s)).length ∧ cur.size ≤ maxLen) ∧ Hid ((sp (bl s)).drop k = sp (bl cur)) ∧ J k D wr ∧ (∀ b, D b → b < wr.heap.size) ∧ ¬ D B ∧ Boxed wr B 9 (.string cur) ∧ Below w₀.heap.size w₀ wr ∧ w₀.heap.size ≤ wr.heap.size) (fun wr => curOf wr B)
  case atStart => exact ⟨0, D, s, ⟨List.length_pos_iff.2 (sp_ne _), hm⟩, by simp [Hid], h0, hDb, hB1, hboxW, hbW, hn⟩
  case round =>
    obtain ⟨k, D, cur, ⟨hk, hcm⟩, hleft, hJk, hDb, hDB, hbx, hbe, hnn⟩ := hrel
    have hcB := hbx.cell
    have hfB := hbx.frozen
    have hdrop : (sp (bl s))[k]? = (sp (bl cur))[0]? := by rw [← hleft.out, List.getElem?_drop, Nat.add_zero]
    rcases cut_one (bl cur) 46 with ⟨hno, hix⟩ | ⟨a, b, hab, hna, hix⟩
    · have hlast : (sp (bl s)).length = k + 1 := by
        have := congrArg List.length hleft.out
        rw [sp_none _ hno, List.length_drop] at this
        simp at this; omega
      have hget : (sp (bl s))[k]? = some (bl cur) := by rw [hdrop, sp_none _ hno]; rfl
      have HC := Lib.hid (fun w => cut_none cur 46 hix w)
      gi_wp2_with fail
      refine ⟨trivial, rfl, (callsIn_wide.2 (HC.out _)).mono ?_⟩
      rintro e w1 ⟨rfl, rfl⟩
      obtain ⟨fn, tmps, assign, body, hy, hR⟩ := hY k (bl cur) #[.string cur] D (fun b => b = B) w1 hget ⟨cur, rfl, rfl, hcm⟩ hJk hDb (fun b h => by subst h; exact ⟨hbx.lt, hDB⟩)
      clear hdrop hno hix hget HC hleft
      gi_wp2
      refine ⟨rfl, hR.mono ?_⟩
      clear hy hR
      rintro e W3 ⟨D3, hD3, hk3, (⟨rfl, hJ3⟩ | ⟨rfl, hJ3⟩)⟩
      · gi_wp2
        refine bodyPost_ret (results_none rfl _ _ _) rfl ?_
        exact ⟨⟨_, rfl⟩, D3, .inl (by rw [hlast]; exact hJ3)⟩
      · gi_wp2
        refine bodyPost_ret (results_none rfl _ _ _) rfl ?_
        exact ⟨⟨_, rfl⟩, D3, .inr ⟨_, hJ3⟩⟩
    · have hal : a.length < cur.size := by rw [← bl_len, hab]; simp
      have hea : bl (cur.extract 0 a.length) = a := by rw [bl_extract, List.drop_zero, Nat.sub_zero, hab, List.take_left]
      have heb : bl (cur.extract (a.length + 1) cur.size) = b := by
        rw [bl_extract, ← bl_len, hab, List.take_of_length_le (by simp; omega), show a.length + 1 = (a ++ [46]).length by simp, show a ++ 46 :: b = (a ++ [46]) ++ b by simp, List.drop_left]
      have hlb : b.length + (a.length + 1) = cur.size := by rw [← bl_len, hab]; simp; omega
      have HC := Lib.hid (fun w => cut_some cur 46 a.length hal hcm hix w)
      have hsp : sp (bl cur) = a :: sp b := by rw [hab, sp_some _ _ hna]
      have hget : (sp (bl s))[k]? = some a := by rw [hdrop, hsp]; rfl
      have hmore : Hid ((sp (bl s)).drop (k + 1) = sp b) := by
        have := congrArg (List.drop 1) hleft.out
        rw [List.drop_drop, hsp] at this
        exact this
      have hkl : k + 1 < (sp (bl s)).length := by
        have := congrArg List.length hmore.out
        have h2 := List.length_pos_iff.2 (sp_ne b)
        rw [List.length_drop] at this
        omega
      obtain ⟨ca, hca⟩ : ∃ c, cur.extract 0 a.length = c := ⟨_, rfl⟩
      obtain ⟨cb, hcb⟩ : ∃ c, cur.extract (a.length + 1) cur.size = c := ⟨_, rfl⟩
      rw [hca, hcb] at HC
      rw [hca] at hea
      rw [hcb] at heb
      have hla : ca.size ≤ maxLen := by unfold maxLen at hcm ⊢; rw [← bl_len, hea]; omega
      have hlb' : cb.size < cur.size := by rw [← bl_len, heb]; omega
      have hlb2 : cb.size ≤ maxLen := by unfold maxLen at hcm ⊢; omega
      have HEB := Lib.hid heb
      have hcur := curOf_box hbx
      have HCUR := Lib.hid hcur
      clear hdrop hab hna hix hsp hleft hal hlb hca hcb heb hcur
      gi_wp2_with fail
      refine ⟨trivial, rfl, (callsIn_wide.2 (HC.out _)).mono ?_⟩
      rintro e w1 ⟨rfl, m, rfl⟩
      have hbd : Below wr.heap.size wr (wr.drewN m) := below_drewN (Below.refl _ _) m
      have hJd := hJ _ _ _ _ hJk (KeepOn.of_below hbd)
      have hbxd : Boxed (wr.drewN m) B 9 (.string cur) := hbx
      obtain ⟨fn, tmps, assign, body, hy, hR⟩ := hY k a #[.string ca] D (fun b => b = B) (wr.drewN m) hget ⟨ca, rfl, hea, hla⟩ hJd hDb (fun b h => by subst h; exact ⟨hbxd.lt, hDB⟩)
      clear hget HC
      gi_wp2
      refine ⟨rfl, hR.mono ?_⟩
      clear hy hR
      rintro e W3 ⟨D3, hD3, hk3, (⟨rfl, hJ3⟩ | ⟨rfl, hJ3⟩)⟩
      · have hn3 : w₀.heap.size ≤ W3.heap.size := Nat.le_trans hnn hk3.size
        have hbx3 := boxed_keepOn hbxd hk3 (.inr rfl)
        have hDB3 : ¬ D3 B := fun h => (hD3 B h).2 rfl
        have hDb3 : ∀ b, D3 b → b < W3.heap.size := fun b h => (hD3 b h).1
        have hbe3 := (hbe.trans (hbd.mono hnn)).trans (hk3.below hnn)
        have hc3 := hbx3.cell
        have hf3 := hbx3.frozen
        have hk4 : KeepOn w₀.heap.size D3 W3 (W3.setCell ⟨B, 0, none⟩ (.string cb)) := KeepOn.setCell W3 B _ hB hDB3
        have hbx4 := hbx3.set (.string cb)
        have hJ4 := hJ _ _ _ _ hJ3 hk4
        have HB4 := Lib.hid hbx4
        have HK4 := Lib.hid hk4
        have HCB := Lib.hid (curOf_box hbx4)
        clear hD3 hbx4 hk4
        gi_wp2
        go_roundw
        case rel => exact ⟨k + 1, D3, cb, ⟨hkl, hlb2⟩, by rw [HEB.out]; exact hmore, hJ4, (fun b h => Nat.lt_of_lt_of_le (hDb3 b h) HK4.out.size), hDB3, HB4.out, hbe3.trans (HK4.out.below hn3), Nat.le_trans hn3 HK4.out.size⟩
        case measure => rw [HCB.out, HCUR.out]; exact hlb'
      · gi_wp2
        refine bodyPost_ret (results_none rfl _ _ _) rfl ?_
        exact ⟨⟨_, rfl⟩, D3, .inr ⟨_, hJ3⟩⟩
end Go.Proofs.Ytlgodokgebjjaaa

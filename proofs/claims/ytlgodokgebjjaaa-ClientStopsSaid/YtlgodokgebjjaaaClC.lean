/- client.Reply, Final, say, replies; the reference's Final. -/
import Derived.RangeFuncNested
import Derived.RangeFuncBound
import Derived.RangeFuncCalls
import Derived.RangeFuncLeaves
import Derived.Shelf.Abstract
import Derived.Shelf.RegionOpen
import Derived.WalkKit
import Derived.OwnWalkIn
import Derived.TacticsInMore
import Derived.LoopNIn
import Derived.LoopIn
import Derived.Outline
import Derived.Lib.Hide
import Derived.Lib.SliceRun
import Derived.IntWalk
import Derived.WalkLawsBesides
import Derived.WalkSpells
import Derived.Laws.BitsAllLaws
import Derived.Lib.ConvBytes
import Derived.Maps.AppendAt
import Derived.Lib.AppendStr
import Derived.Lib.SlBytesConst
import Derived.Laws.AppendOwnNone
import Derived.Laws.OwnMore
import Derived.Laws.BytesArg
import Derived.Deep.RegionHeld3
import Derived.BigQuiet
import Derived.Deep.RegionLaw
import Derived.Deep.QuietTactic
import Derived.Lib.OthersKept
import Derived.Test.YtlgodokgebjjaaaProg
import Derived.Deep.DeepFit
import Derived.Test.YtlgodokgebjjaaaStA
import Derived.Test.YtlgodokgebjjaaaClB
set_option linter.unusedVariables false
set_option linter.unusedSimpArgs false
namespace Go.Proofs.Ytlgodokgebjjaaa
open Go Go.RowKit Go.Shelf
open Go.Proofs (encStr)

theorem rpU_le (l : List UInt8) : rpU (rp l) ≤ l.length := by
  cases h : rp l with
  | none => simp [rpU]
  | some p => exact (rp_code l p.1 p.2 h).2.2
theorem rpU_pos (l : List UInt8) : decide (0 < rpU (rp l)) = (rp l).isSome := by
  cases h : rp l with
  | none => rfl
  | some p => have := (rp_code l p.1 p.2 h).2.1; exact decide_eq_true (show 0 < p.2 by omega)
set_option maxRecDepth 100000 in
set_option maxHeartbeats 1000000 in
/-- **Reply** -/
theorem clReply_any (v : Value) (l : List UInt8) (w : World) (hlen : l.length ≤ 4000000) (hml : ML w) (h : SB w v l) :
    Calls Try.prog 20 #[v] w fun e w' => ∃ u, e = .returned (.tuple #[.int .i64 (rpC (rp l) : Int), u, .bool (rp l).isSome]) ∧ OB w' w.heap.size u (l.drop (rpU (rp l))) ∧ Below w.heap.size w w' := by
  obtain ⟨A, c, rfl, hcap, hcm, -⟩ := h.form
  have hr := reply_any A c l w hlen hml h
  have hle := rpU_le l
  have hpos := rpU_pos l
  obtain ⟨n, hn⟩ : ∃ n, l.length = n := ⟨_, rfl⟩
  obtain ⟨C, hC⟩ : ∃ C, rpC (rp l) = C := ⟨_, rfl⟩
  obtain ⟨U, hU⟩ : ∃ C, rpU (rp l) = C := ⟨_, rfl⟩
  obtain ⟨b, hb⟩ : ∃ C, (rp l).isSome = C := ⟨_, rfl⟩
  rw [hC, hU] at hr
  rw [hU] at hle hpos
  rw [hb] at hpos
  rw [hC, hU, hb]
  rw [hn] at hr hle hcap ⊢
  rw [hn] at h
  obtain ⟨m, hm⟩ : ∃ m, n - U = m := ⟨_, rfl⟩
  obtain ⟨d, hd⟩ : ∃ d, c - U = d := ⟨_, rfl⟩
  have ks := fun w => slice_run1 A n c U hle (U : Int) rfl m d hm.symm hd.symm w
  have hcl := fun (w' : World) (hb : Below w.heap.size w w') => clone_any (.slice (cutA A c U) m d) (l.drop U) w' (by rw [List.length_drop]; omega) ((h.below hb).cut1 U m d (by rw [hn]; exact hle) (by rw [hn]; exact hm.symm) hd.symm)
  have hp' : decide ((0 : Int) < (U : Int)) = b := by rw [← hpos]; simp
  have HR := Lib.hid hr
  have HCL := Lib.hid hcl
  clear hr hcl h hm hd hC hU hb hn
  go_enter Try.func20, Try.ntmps20
  go_wp2_with fail
  refine HR.out.mono ?_
  rintro e w1 ⟨rfl, hb1⟩
  have HB1 := Lib.hid hb1
  have HC := Lib.hid (HCL.out w1 hb1)
  clear hb1 HCL
  go_wp2_with fail
  refine HC.out.mono ?_
  rintro e w2 ⟨u, rfl, ho, hb2⟩
  have HO := Lib.hid (OB.mono ho HB1.out.size)
  have HB2 := Lib.hid (HB1.out.trans (hb2.mono HB1.out.size))
  clear ho hb2
  go_wp2
  go_ret3
  exact ⟨u, by simp [hpos], HO.out, HB2.out⟩
/-- what the queue is told -/
def finalI (c : Int) : Int := if c = 250 ∨ (400 ≤ c ∧ c ≤ 599) then c else 421
set_option maxRecDepth 100000 in
set_option maxHeartbeats 1000000 in
theorem final_any (c : Int) (w : World) : Calls Try.prog 17 #[.int .i64 c] w fun e w' => e = .returned (.int .i64 (finalI c)) ∧ w' = w := by
  rcases (by omega : c = 250 ∨ (c ≠ 250 ∧ c < 400) ∨ (400 ≤ c ∧ c ≤ 599) ∨ 599 < c) with h | h | h | h
  · subst h
    go_enter Try.func17, Try.ntmps17
    go_wp2
    go_ret
    exact ⟨rfl, rfl⟩
  · have e : finalI c = 421 := if_neg (by omega)
    have d0 : (c != 250) = true := bne_iff_ne.2 h.1
    have d1 : decide (c < 400) = true := decide_eq_true h.2
    rw [e]
    clear h e
    go_enter Try.func17, Try.ntmps17
    go_wp2
    go_ret
    exact ⟨rfl, rfl⟩
  · have e : finalI c = c := if_pos (by omega)
    have d0 : (c != 250) = true := bne_iff_ne.2 (by omega)
    have d1 : decide (c < 400) = false := decide_eq_false (by omega)
    have d2 : decide (599 < c) = false := decide_eq_false (by omega)
    rw [e]
    clear h e
    go_enter Try.func17, Try.ntmps17
    go_wp2
    go_ret
    exact ⟨rfl, rfl⟩
  · have e : finalI c = 421 := if_neg (by omega)
    have d0 : (c != 250) = true := bne_iff_ne.2 (by omega)
    have d1 : decide (c < 400) = false := decide_eq_false (by omega)
    have d2 : decide (599 < c) = true := decide_eq_true (by omega)
    rw [e]
    clear h e
    go_enter Try.func17, Try.ntmps17
    go_wp2
    go_ret
    exact ⟨rfl, rfl⟩
set_option maxRecDepth 100000 in
set_option maxHeartbeats 1000000 in
theorem qfinal_any (c : Int) (w : World) : Calls Try.prog 18 #[.int .i64 c] w fun e w' => e = .returned (.int .i64 (finalI c)) ∧ w' = w := by
  rcases (by omega : c = 250 ∨ (c ≠ 250 ∧ c < 400) ∨ (400 ≤ c ∧ c ≤ 599) ∨ 599 < c) with h | h | h | h
  · subst h
    go_enter Try.func18, Try.ntmps18
    go_wp2
    go_ret
    exact ⟨rfl, rfl⟩
  · have e : finalI c = 421 := if_neg (by omega)
    have d0 : (c == 250) = false := beq_eq_false_iff_ne.2 h.1
    have d1 : decide (400 ≤ c) = false := decide_eq_false (by omega)
    rw [e]
    clear h e
    go_enter Try.func18, Try.ntmps18
    go_wp2
    go_ret
    exact ⟨rfl, rfl⟩
  · have e : finalI c = c := if_pos (by omega)
    have d0 : (c == 250) = false := beq_eq_false_iff_ne.2 (by omega)
    have d1 : decide (400 ≤ c) = true := decide_eq_true (by omega)
    have d2 : decide (c ≤ 599) = true := decide_eq_true (by omega)
    rw [e]
    clear h e
    go_enter Try.func18, Try.ntmps18
    go_wp2
    go_ret
    exact ⟨rfl, rfl⟩
  · have e : finalI c = 421 := if_neg (by omega)
    have d0 : (c == 250) = false := beq_eq_false_iff_ne.2 (by omega)
    have d1 : decide (400 ≤ c) = true := decide_eq_true (by omega)
    have d2 : decide (c ≤ 599) = false := decide_eq_false (by omega)
    rw [e]
    clear h e
    go_enter Try.func18, Try.ntmps18
    go_wp2
    go_ret
    exact ⟨rfl, rfl⟩
/-- append(own, text...) -/
theorem wpB_appendS {w : World} {ops : Array Oper} {rest : List Oper} {o : Oper} {a : Act} {Q : Exit → Act → World → Prop} (hgd : o.guard = none) (s x : Operand)
    (ho : o.op = .call { callee := .builtin .append, args := #[s, x], argTypes := #[22, 9] })
    (base : Nat) (v : Value) (l m : List UInt8) (str : ByteArray) (hs : a.eval s = v) (hown : OB w base v l) (hx : a.eval x = .string str) (hm : str.data.toList = m) (hlen : l.length + m.length ≤ 140737488355328) (hbase : base ≤ w.heap.size)
    (h : ∀ v' w', OB w' base v' (l ++ m) → w.grownBy w' v.ownBlock → Below base w w' → wpList Try.prog ops Q rest (a.put o.dst v') w') : wpList Try.prog ops Q (o :: rest) a w := by
  obtain ⟨i0, hi, hz0, hz1, hz2⟩ := info_parts info5
  have hsz : str.size = m.length := by rw [← hm, Array.length_toList]; rfl
  have hsc : Lib.strCells str = enc8 m := by rw [← hm]; rfl
  refine wpList_plain hgd fun K hK => ?_
  obtain ⟨v', w', hrun, r1, r2, _⟩ := Lib.run_append_own_string (P := Try.prog) w base 22 9 o.type 5 i0 Try.underlying22 Try.underlying9 hi hz0 hz1 hz2 v l.length (enc8 l) hown str (by unfold maxLen; omega) (by omega) hbase
  unfold Oper.wp
  simp [execOp, ho, resolve, invoke, builtin, hs, hx, hrun, Result.andThen]
  refine hK _ _ (h v' w' ?_ r2 ((Below.refl base w).grown r2 hbase (fun k hk => (hown.lt k hk).1)))
  unfold OB
  rw [enc8_append, List.length_append, ← hsc, ← hsz]
  exact r1
theorem flat_snoc (ss : List (List UInt8)) (k : Nat) (h : k < ss.length) : (ss.take (k + 1)).flatten = (ss.take k).flatten ++ ss[k] := by
  rw [List.take_succ_eq_append_getElem h, List.flatten_append]; simp
set_option maxRecDepth 100000 in
set_option maxHeartbeats 2000000 in
/-- **say** -/
theorem say_any (v : Value) (ss : List (List UInt8)) (w : World) (hlen : ss.flatten.length ≤ 1000000) (h : TS w v ss) :
    Calls Try.prog 41 #[v] w fun e w' => ∃ u, e = .returned u ∧ OB w' w.heap.size u (ss.flatten ++ [13, 10]) ∧ Below w.heap.size w w' := by
  have h' := Lib.hid h
  obtain ⟨A, c, rfl, hc, -⟩ := h
  obtain ⟨n, hn⟩ : ∃ n, ss.length = n := ⟨_, rfl⟩
  obtain ⟨F, hF⟩ : ∃ F, ss.flatten = F := ⟨_, rfl⟩
  have HFE := Lib.hid hF
  rw [hF] at hlen ⊢
  have HN := Lib.hid hn
  have HL := Lib.hid hlen
  rw [hn] at h' hc ⊢
  clear hn hlen hF
  go_enter Try.func41, Try.ntmps41
  go_wp2
  go_loopw [3, 8] (fun b q wr => ∃ k : Nat, (q = .int .i64 (k : Int) ∧ k ≤ n) ∧ OB wr w.heap.size b (ss.take k).flatten ∧ Mine w.heap.size w wr) (fun _ q _ => n - (intOf q).toNat)
  case atStart => exact ⟨0, ⟨rfl, Nat.zero_le _⟩, World.ownsRow_nil _ _ _ _, Mine.refl w⟩
  case round =>
    obtain ⟨k, ⟨rfl, hk⟩, hown, hm⟩ := hrel
    by_cases hlt : k < n
    · have hks : k < ss.length := by rw [HN.out]; exact hlt
      obtain ⟨A', c', e, _, hx⟩ := h'.out.below hm.bel
      injection e with e1 e2 e3
      obtain ⟨g, o, hA, hcell⟩ := hx k hks
      rw [hA] at e1
      have hsn := flat_snoc ss k hks
      have hfl : (ss.take k).flatten.length + ss[k].length ≤ 1000000 := by
        have h1 := congrArg List.length hsn
        rw [List.length_append] at h1
        have h2 : (ss.take (k + 1)).flatten.length ≤ ss.flatten.length := take_flat_len ss (k + 1)
        rw [HFE.out] at h2
        have := HL.out
        omega
      obtain ⟨x, hxx⟩ : ∃ x, ss[k] = x := ⟨_, rfl⟩
      obtain ⟨pr, hpr⟩ : ∃ x, (ss.take k).flatten = x := ⟨_, rfl⟩
      rw [hxx] at hcell hsn hfl
      rw [hpr] at hsn hfl hown
      have HSN := Lib.hid hsn
      have HO := Lib.hid hown
      have HM := Lib.hid hm
      have HF := Lib.hid hfl
      have hcell' : wr.cell? ⟨g, o + k, none⟩ = some (.string ⟨x.toArray⟩) := hcell
      have d0 : decide (k < n) = true := decide_eq_true hlt
      have d0' : decide ((k : Int) < (n : Int)) = true := decide_eq_true (by omega)
      have k0 : (0 : Int) ≤ (k : Int) := by omega
      have k1 : (k : Int) < (n : Int) := by omega
      subst e1
      clear hxx hpr hsn hown hm hfl hcell hx e2 e3
      go_wp2_with (at_builtin; refine wpB_appendS rfl _ _ rfl w.heap.size _ pr x ⟨x.toArray⟩ rfl HO.out rfl (by simp) (by have := HF.out; omega) HM.out.le ?_)
      intro v5 w5 hown5 _ hb5
      obtain ⟨pr2, hpr2⟩ : ∃ q, pr ++ x = q := ⟨_, rfl⟩
      rw [hpr2] at hown5
      have HO5 := Lib.hid hown5
      have HM5 := Lib.hid (HM.out.callN hb5 (Nat.le_refl _))
      have HP2 := Lib.hid hpr2
      clear hown5 hb5 hpr2
      go_wp2
      go_roundw
      case rel => exact ⟨k + 1, ⟨by go_num, by omega⟩, by rw [HSN.out, HP2.out]; exact HO5.out, HM5.out⟩
      case measure => simp [intOf]; omega
    · have d0 : decide (k < n) = false := decide_eq_false hlt
      have d0' : decide ((k : Int) < (n : Int)) = false := decide_eq_false (by omega)
      rw [List.take_of_length_le (by rw [HN.out]; omega)] at hown
      rw [HFE.out] at hown
      have HO := Lib.hid hown
      have HM := Lib.hid hm
      clear hown hm
      go_wp2_with (at_builtin; refine wpB_appendS rfl _ _ rfl w.heap.size _ F [13, 10] ⟨#[13, 10]⟩ rfl HO.out rfl rfl (by have := HL.out; simp; omega) HM.out.le ?_)
      intro v5 w5 hown5 _ hb5
      have HO5 := Lib.hid hown5
      have HM5 := Lib.hid (HM.out.callN hb5 (Nat.le_refl _))
      clear hown5 hb5
      go_wp2
      go_ret
      exact ⟨_, rfl, HO5.out, HM5.out.bel⟩
theorem replies_any (A : Option Addr) (n c : Nat) (w : World) : Calls Try.prog 44 #[.slice A n c] w fun e w' => e = .returned (.func (.func 71) #[] #[.pointer (some ⟨w.heap.size, 0, none⟩)]) ∧ w.alloc (.cells #[.slice A n c] 22) = w' := by
  go_enter Try.func44, Try.ntmps44
  go_wp2
  go_ret
  exact ⟨rfl, rfl⟩
end Go.Proofs.Ytlgodokgebjjaaa

/- AppendSeq, Collect, Words. -/
import Derived.RangeFuncNested
import Derived.RangeFuncBound
import Derived.RangeFuncCalls
import Derived.RangeFuncLeaves
import Derived.Shelf.Abstract
import Derived.Shelf.RegionOpen
import Derived.WalkKit
import Derived.OwnWalkIn
import Derived.TacticsInMore
import Derived.LoopNIn
import Derived.LoopIn
import Derived.Outline
import Derived.Lib.Hide
import Derived.Lib.SliceRun
import Derived.IntWalk
import Derived.WalkLawsBesides
import Derived.WalkSpells
import Derived.Laws.BitsAllLaws
import Derived.Lib.ConvBytes
import Derived.Maps.AppendAt
import Derived.Lib.AppendStr
import Derived.Lib.SlBytesConst
import Derived.Laws.AppendOwnNone
import Derived.Laws.OwnMore
import Derived.Laws.BytesArg
import Derived.Deep.RegionHeld3
import Derived.BigQuiet
import Derived.Deep.RegionLaw
import Derived.Deep.QuietTactic
import Derived.Lib.OthersKept
import Derived.Test.YthcggjehihkdoaaProg
import Derived.Deep.DeepFit
import Derived.Test.YthcggjehihkdoaaTkE
set_option linter.unusedVariables false
set_option linter.unusedSimpArgs false
namespace Go.Proofs.Ythcggjehihkdoaa
open Go Go.RowKit Go.Shelf
open Go.Proofs (encStr)
attribute [local go_sem] Oper.semAt_some

/-- an own row of texts whose variable lies in B1 -/
def GT (n₀ B1 : Nat) (w : World) (pre : List (List UInt8)) (D : Nat → Prop) (W : World) (v : Value) : Prop :=
  Boxed W B1 31 v ∧ OT W n₀ v pre ∧ D B1 ∧ (∀ r, v.ownBlock = some r → D r) ∧ Below n₀ w W ∧ n₀ ≤ W.heap.size
theorem GT.keep {n₀ B1 : Nat} {w W W' : World} {pre : List (List UInt8)} {D : Nat → Prop} {v : Value} (h : GT n₀ B1 w pre D W v) (hk : KeepOn n₀ D W W') : GT n₀ B1 w pre D W' v := by
  obtain ⟨h1, h2, h3, h4, h5, h6⟩ := h
  exact ⟨boxed_keepOn h1 hk (.inr h3), ownsRow_keepOn h2 hk h4, h3, h4, h5.trans (hk.below h6), Nat.le_trans h6 hk.size⟩
theorem gt_put {n₀ B1 : Nat} {w W w1 : World} {M D : Nat → Prop} {v v' : Value} {pre pre' : List (List UInt8)} (hB1 : n₀ ≤ B1) (h : GT n₀ B1 w pre D W v) (hDb : ∀ b, D b → b < W.heap.size) (hMD : ∀ b, M b → b < W.heap.size ∧ ¬ D b)
    (hown : OT w1 n₀ v' pre') (hgrow : W.grownBy w1 v.ownBlock) (hnew : ∀ r, v'.ownBlock = some r → v.ownBlock = some r ∨ r = W.heap.size) :
    ∃ D', (∀ b, D b → D' b) ∧ (∀ b, D' b → b < (w1.setCell ⟨B1, 0, none⟩ v').heap.size ∧ ¬ M b) ∧ KeepOn n₀ M W (w1.setCell ⟨B1, 0, none⟩ v') ∧ GT n₀ B1 w pre' D' (w1.setCell ⟨B1, 0, none⟩ v') v' := by
  obtain ⟨h1, h2, h3, h4, h5, h6⟩ := h
  have hM1 : ¬ M B1 := fun h => (hMD B1 h).2 h3
  have k1 : KeepOn n₀ M W w1 := KeepOn.of_grown hgrow (fun r hr => ⟨(World.ownsRow.lt h2 r hr).1, fun h => (hMD r h).2 (h4 r hr)⟩)
  have k2 : KeepOn n₀ M W (w1.setCell ⟨B1, 0, none⟩ v') := k1.trans (KeepOn.setCell w1 B1 v' hB1 hM1)
  have hbx1 : Boxed w1 B1 31 v := h1.kept hgrow (h1.not_row (by decide) h2)
  have hne : some B1 ≠ v'.ownBlock := hbx1.not_row (by decide) hown
  have hsz : (w1.setCell ⟨B1, 0, none⟩ v').heap.size = w1.heap.size := by simp [World.setCell]
  refine ⟨fun b => D b ∨ v'.ownBlock = some b, fun b hb => .inl hb, fun b hb => ?_, k2, hbx1.set v', ?_, .inl h3, fun r hr => .inr hr, h5.trans (k2.below h6), Nat.le_trans h6 k2.size⟩
  · rcases hb with hb | hb
    · exact ⟨Nat.lt_of_lt_of_le (hDb b hb) k2.size, fun hm => (hMD b hm).2 hb⟩
    · refine ⟨by rw [hsz]; exact (World.ownsRow.lt hown b hb).2, fun hm => ?_⟩
      rcases hnew b hb with h | h
      · exact (hMD b hm).2 (h4 b h)
      · have := (hMD b hm).1; omega
  · exact ownsRow_keepOn (n₀ := n₀) (D := fun b => b ≠ B1) hown (KeepOn.setCell w1 B1 v' hB1 (fun h => h rfl)) (fun r hr h => hne (by rw [← h]; exact hr.symm))
theorem take_snoc (ws : List (List UInt8)) (k : Nat) (x : List UInt8) (h : ws[k]? = some x) : ws.take (k + 1) = ws.take k ++ [x] := by
  have hk : k < ws.length := (List.getElem?_eq_some_iff.1 h).1
  rw [List.getElem?_eq_getElem hk] at h
  cases h
  exact List.take_succ_eq_append_getElem hk
theorem GT.alloc {n₀ B1 : Nat} {w W : World} {pre : List (List UInt8)} {D : Nat → Prop} {v : Value} (h : GT n₀ B1 w pre D W v) (o : Obj) : GT n₀ B1 w pre D (W.alloc o) v := h.keep (KeepOn.alloc _ _ _ _)
set_option maxRecDepth 100000 in
set_option maxHeartbeats 4000000 in
/-- **slices.AppendSeq** -/
theorem appendSeq_any (n₀ B : Nat) (A : Option Addr) (c : Nat) (l : List UInt8) (hlen : l.length ≤ 100000) (w₀ w : World) (hw : w₀.heap.size = n₀) (hbw : Below n₀ w₀ w) (hn : n₀ ≤ w.heap.size) (hB : n₀ ≤ B) (hB2 : B < w.heap.size) (hs : SB w₀ (.slice A l.length c) l) (hbox : Boxed w B 22 (.slice A l.length c)) :
    Calls Try.prog 48 #[.slice none 0 0, .func (.func 45) #[] #[.pointer (some ⟨B, 0, none⟩)]] w fun e w' => ∃ u, e = .returned u ∧ OT w' n₀ u (words l) ∧ Below n₀ w₀ w' ∧ n₀ ≤ w'.heap.size := by
  have hwl := words_len l
  obtain ⟨ws, hws⟩ : ∃ ws, words l = ws := ⟨_, rfl⟩
  have hseq := runs1_seq n₀ B A c l hlen w₀ w hw hbw hB hs hbox
  rw [hws] at hseq hwl ⊢
  have HSEQ := Lib.hid hseq
  have HWL : Hid (ws.length ≤ 100001) := by show _ ≤ _; omega
  obtain ⟨B1, hB1⟩ : ∃ B, w.heap.size = B := ⟨_, rfl⟩
  have HBW := Lib.hid hbw
  clear hseq hwl hws hs hbox hbw
  refine (callsIn_wide (n := 0)).1 ?_
  refine callsIn_of_wp_marks Try.func48 rfl trivial ?_
  simp only [Try.ntmps48, List.size_toArray, List.length_cons, List.length_nil, Nat.reduceAdd, Nat.reduceSub, Array.replicate_succ, Array.replicate_zero, List.push_toArray, List.append_toArray, List.nil_append, List.cons_append]
  gi_wp2_with fail
  obtain ⟨W0, hW0⟩ : ∃ W0, w.alloc (.cells #[.slice none 0 0] 31) = W0 := ⟨_, rfl⟩
  have hbW0 : Below w.heap.size w W0 := by rw [← hW0]; exact (Below.refl _ w).alloc (Nat.le_refl _) _
  have hs0 : W0.heap.size = B1 + 1 := by rw [← hW0, alloc_size, hB1]
  have hbx0 : Boxed W0 B1 31 (.slice none 0 0) := by rw [← hW0, ← hB1]; exact Boxed.new w 31 _
  have hbn : Below n₀ w W0 := hbW0.mono hn
  have hn1 : n₀ ≤ B1 := by omega
  have hb2 : B < B1 := by omega
  have hWB : W0.heap[B]? = w.heap[B]? := hbW0.block B hB2
  rw [hW0]
  clear hW0 hbW0
  refine wpIn_rangeFunc_D (gf := 45) (lb := #[.pointer (some ⟨B, 0, none⟩)]) (n₀ := n₀) (Enc := EncS) (xs := ws) rfl (enters_of Try.func45 (by kernel_rfl) rfl)
    HSEQ.out (fun x az _ _ h => by cases h; rfl)
    (fun x az M W lp dk r o ds h h1 h2 => h) (by rw [hs0]; omega) hbn
    (fun b => b = B1) (fun b h => by subst h; rw [hs0]; omega) (fun b h => by subst h; exact ⟨by omega, by rw [hs0]; omega, hWB⟩)
    (fun k D W => ∃ v, GT n₀ B1 w (ws.take k) D W v) (fun _ _ _ _ => False) (fun k D W W' ⟨v, h⟩ hk => ⟨v, h.keep hk⟩) (fun c k D W W' h _ => h)
    ⟨_, hbx0, World.ownsRow_nil _ _ _ _, rfl, fun r hr => by simp [Value.ownBlock] at hr, hbn, by rw [hs0]; omega⟩
    (fun az => { tmps := #[.slice none 0 0, .func (.func 45) #[] #[.pointer (some ⟨B, 0, none⟩)], .pointer (some ⟨B1, 0, none⟩), undef, .slice none 0 0, az[0]?.getD undef, .func (.func 45) #[] #[.pointer (some ⟨B, 0, none⟩)], az[0]?.getD undef, undef, undef, undef, undef, undef], defers := [] }) ?assign ?body ?done ?stop
  case assign =>
    rintro lp x az M W K hE hK
    cases hE
    gi_wp2
    exact hK
  case body =>
    rintro lp k x az D M W hx hE ⟨v, hg⟩ hDb hMD
    cases hE
    have hkl : k < ws.length := (List.getElem?_eq_some_iff.1 hx).1
    have hsn := take_snoc ws k x hx
    have hpl : (ws.take k).length + 1 ≤ 1000000 := by have := HWL.out; rw [List.length_take]; omega
    obtain ⟨pr, hpr⟩ : ∃ pr, ws.take k = pr := ⟨_, rfl⟩
    rw [hpr] at hsn hpl hg
    have hg1 := hg.alloc (.cells #[encStr x] 9)
    have hlt := TS_lit W x
    have hba : Below W.heap.size W (W.alloc (.cells #[encStr x] 9)) := (Below.refl _ _).alloc (Nat.le_refl _) _
    have hcB := hg.1.cell
    have hfB := hg.1.frozen
    have hfB1 := hg1.1.frozen
    have hcB1 := hg1.1.cell
    have HG1 := Lib.hid hg1
    have HLT := Lib.hid hlt
    have HBA := Lib.hid hba
    have HSN := Lib.hid hsn
    have HPL := Lib.hid hpl
    have HDb := Lib.hid hDb
    have HM := Lib.hid hMD
    clear hg hg1 hlt hba hsn hpl hDb hMD hpr hx
    gi_wp2_with (gi_at_builtin; refine wpTI_append rfl _ _ rfl n₀ v _ pr [x] rfl HG1.out.2.1 rfl HLT.out (by simp) HPL.out HG1.out.2.2.2.2.2 ?_; intro v5 w5 hown5 hgrow5 hnew5; obtain ⟨pr2, hpr2⟩ : ∃ q, pr ++ [x] = q := ⟨_, rfl⟩; rw [hpr2] at hown5; have HPR2 := Lib.hid hpr2; obtain ⟨A5, c5, rfl, -, -⟩ := hown5.reads; have hv5 := HG1.out.1.kept hgrow5 (HG1.out.1.not_row (by decide) HG1.out.2.1); have hv5c := hv5.cell; have hv5f := hv5.frozen; obtain ⟨D5, hDa5, hDb5, hk5, hg5⟩ := gt_put (M := M) hn1 HG1.out (fun b hb => Nat.lt_of_lt_of_le (HDb.out b hb) HBA.out.size) (fun b hb => ⟨Nat.lt_of_lt_of_le (HM.out b hb).1 HBA.out.size, (HM.out b hb).2⟩) hown5 hgrow5 hnew5; have HK5 := Lib.hid ((KeepOn.of_below (n₀ := n₀) (D := M) HBA.out).trans hk5); have HG5 := Lib.hid hg5; have HD5 := Lib.hid hDb5; clear hown5 hgrow5 hnew5 hg5 hDa5 hDb5 hk5 hv5 hpr2)
    exact ⟨D5, HD5.out, HK5.out, _, by rw [HSN.out, HPR2.out]; exact HG5.out⟩
  case done =>
    rintro dk D W hdk ⟨v, hg⟩ hK hDk
    rw [hs0] at hdk
    rw [List.take_length] at hg
    have hcB := hg.1.cell
    have hfB := hg.1.frozen
    have HG := Lib.hid hg
    have HK := Lib.hid hK
    have HDK := Lib.hid hDk
    clear hg hK hDk
    gi_wp2
    refine ⟨by simp, .inl ⟨_, _, rfl, run_takeDeferred HK.out, ?_⟩⟩
    refine ⟨_, results_tmp rfl _ _ _, v, rfl, ?_, ?_, ?_⟩
    · refine ownsRow_keepOn (n₀ := n₀) (D := fun b => b ≠ dk) HG.out.2.1 (KeepOn.putObj W dk _ (by omega) (fun h => h rfl)) (fun r hr h => ?_)
      subst h
      exact HDK.out (HG.out.2.2.2.1 _ hr)
    · exact belowK_bD (HBW.out.trans HG.out.2.2.2.2.1) dk _ (by omega)
    · have := HG.out.2.2.2.2.2
      simpa [World.putObj] using this
  case stop =>
    rintro dk c k D W _ h _ _
    exact h.elim
set_option maxRecDepth 100000 in
set_option maxHeartbeats 400000 in
/-- **slices.Collect** -/
theorem collect_any (n₀ B : Nat) (A : Option Addr) (c : Nat) (l : List UInt8) (hlen : l.length ≤ 100000) (w₀ w : World) (hw : w₀.heap.size = n₀) (hbw : Below n₀ w₀ w) (hn : n₀ ≤ w.heap.size) (hB : n₀ ≤ B) (hB2 : B < w.heap.size) (hs : SB w₀ (.slice A l.length c) l) (hbox : Boxed w B 22 (.slice A l.length c)) :
    Calls Try.prog 39 #[.func (.func 45) #[] #[.pointer (some ⟨B, 0, none⟩)]] w fun e w' => ∃ u, e = .returned u ∧ OT w' n₀ u (words l) ∧ Below n₀ w₀ w' ∧ n₀ ≤ w'.heap.size := by
  have H := Lib.hid (appendSeq_any n₀ B A c l hlen w₀ w hw hbw hn hB hB2 hs hbox)
  clear hbox hs hbw
  go_enter Try.func39, Try.ntmps39
  go_wp2_with fail
  refine H.out.mono ?_
  rintro e w1 ⟨u, rfl, ho, hb, hn1⟩
  have HO := Lib.hid ho
  have HB := Lib.hid hb
  clear ho hb
  go_wp2
  go_ret
  exact ⟨_, rfl, HO.out, HB.out, hn1⟩
set_option maxRecDepth 100000 in
set_option maxHeartbeats 400000 in
/-- **Words** -/
theorem words_any (v : Value) (l : List UInt8) (w : World) (hlen : l.length ≤ 100000) (h : SB w v l) :
    Calls Try.prog 27 #[v] w fun e w' => ∃ u, e = .returned u ∧ OT w' w.heap.size u (words l) ∧ Below w.heap.size w w' := by
  have h' := h
  obtain ⟨A, c, rfl, -, -, -⟩ := h.form
  have hba : Below w.heap.size w (w.alloc (.cells #[.slice A l.length c] 22)) := (Below.refl _ w).alloc (Nat.le_refl _) _
  have hco := collect_any w.heap.size w.heap.size A c l hlen w _ rfl hba hba.size (Nat.le_refl _) (by rw [alloc_size]; omega) h' (Boxed.new w 22 _)
  have H := Lib.hid hco
  clear h h' hba hco
  go_enter Try.func27, Try.ntmps27
  go_wp2_with fail
  refine (runs_any _ _ _ _).mono ?_
  rintro e w1 ⟨rfl, rfl⟩
  go_wp2_with fail
  refine H.out.mono ?_
  rintro e w1 ⟨u, rfl, ho, hb, hn1⟩
  have HO := Lib.hid ho
  have HB := Lib.hid hb
  clear ho hb
  go_wp2
  go_ret
  exact ⟨_, rfl, HO.out, HB.out⟩
end Go.Proofs.Ythcggjehihkdoaa

/- Append. -/
import Derived.RangeFuncNested
import Derived.RangeFuncBound
import Derived.RangeFuncCalls
import Derived.RangeFuncLeaves
import Derived.Shelf.Abstract
import Derived.Shelf.RegionOpen
import Derived.WalkKit
import Derived.OwnWalkIn
import Derived.TacticsInMore
import Derived.LoopNIn
import Derived.LoopIn
import Derived.Outline
import Derived.Lib.Hide
import Derived.Lib.SliceRun
import Derived.IntWalk
import Derived.WalkLawsBesides
import Derived.WalkSpells
import Derived.Laws.BitsAllLaws
import Derived.Lib.ConvBytes
import Derived.Maps.AppendAt
import Derived.Lib.AppendStr
import Derived.Lib.SlBytesConst
import Derived.Laws.AppendOwnNone
import Derived.Laws.OwnMore
import Derived.Laws.BytesArg
import Derived.Deep.RegionHeld3
import Derived.BigQuiet
import Derived.Deep.RegionLaw
import Derived.Deep.QuietTactic
import Derived.Lib.OthersKept
import Derived.Test.YtbcnalabalegfaaProg
import Derived.Deep.DeepFit
import Derived.Test.YtbcnalabalegfaaDsD
set_option linter.unusedVariables false
set_option linter.unusedSimpArgs false
namespace Go.Proofs.Ytbcnalabalegfaa
open Go Go.RowKit Go.Shelf
open Go.Proofs (encStr)
variable {W W' : World} {B m n : Nat} {g : List UInt8 → Option Nat} {sl : List UInt8 → Value} {d : Dsk} {S : Nat → Prop}

theorem cell_set_ne (W : World) (a p : Addr) (u : Value) (h : p.block ≠ a.block) : (W.setCell a u).cell? p = W.cell? p := by
  have := heap_setCell_other W a p.block u h
  simp only [World.cell?, this]
theorem frozen_set_ne (W : World) (a p : Addr) (u : Value) (h : p.block ≠ a.block) : (W.setCell a u).frozen? p = W.frozen? p := by
  have := heap_setCell_other W a p.block u h
  simp only [World.frozen?, this]
/-- bytes lie on where another map turns -/
theorem SB.map {W W' : World} {v : Value} {l : List UInt8} {m : Nat} (h : SB W v l) (hm : ∃ es c, W.heap[m]? = some (.map es c)) (hb : ∀ b, b < W.heap.size → b ≠ m → W'.heap[b]? = W.heap[b]?) : SB W' v l := by
  by_cases h0 : 0 < l.length
  · obtain ⟨A, c, rfl, h1, h2, h3⟩ := h.form
    obtain ⟨g, o, rfl, hc⟩ := h3 h0
    have hne : g ≠ m := fun e => by
      obtain ⟨es, cl, hm⟩ := hm
      have := hc 0 h0
      rw [World.cell?] at this
      simp only [e, hm] at this
      cases this
    refine .inr ⟨_, c, rfl, h1, h2, fun _ => ⟨g, o, rfl, fun i hi => ?_⟩⟩
    rw [← hc i hi]
    have := hb g (World.block_lt_of_cell? W _ (hc 0 h0)) hne
    simp [World.cell?, this]
  · exact h.empty (by omega) W'
set_option maxRecDepth 100000 in
theorem dapp1_any (w : World) : Calls Try.prog 16 #[] w fun e w' => e = .returned (.tuple #[]) ∧ w' = w := by
  go_enter Try.func16, Try.ntmps16
  go_wp2
  go_end0
  exact ⟨rfl, rfl⟩
/-- bytes behind a file that is there: memory -/
theorem DKat.grow (h : DKat W B m n g sl d S) {x : List UInt8} {F : Nat} {b : List UInt8} {s : Nat} (hg : g x = some F) (hf : d.f x = some (b, s)) {c : List UInt8} (hlen : b.length + c.length ≤ 1000000000) {v' : Value} {W1 : World} (hO : OB W1 0 v' (b ++ c)) (hgr : W.grownBy W1 (sl x).ownBlock)
    (hlies : ∀ r, v'.ownBlock = some r → (sl x).ownBlock = some r ∨ r = W.heap.size) :
    DKat (W1.setCell ⟨F, 0, none⟩ v') B m n g (fun y => if y = x then v' else sl y) { d with f := updF d.f x (some (b ++ c, s)) } (fun r => S r ∨ r = W.heap.size ∧ r < W1.heap.size) ∧ Chg S W (W1.setCell ⟨F, 0, none⟩ v') ∧
      DC W1 B m d.room d.used d.fuse d.down ∧ FC W1 F (sl x) (s : Int) ∧ F ≠ B := by
  obtain ⟨b0, s0, h1, h2, h2', h3, h4, h5, h6⟩ := h.file x F hg
  rw [hf] at h1; cases h1
  have hgx : (g x).isSome = true := by rw [hg]; rfl
  have hFr : some F ≠ (sl x).ownBlock := fun e => ((h.neB hg).2.2 x F hgx e.symm).2.2 rfl
  have hBr : some B ≠ (sl x).ownBlock := fun e => ((h.neB hg).2.2 x B hgx e.symm).1 rfl
  have hFC : FC W1 F (sl x) (s : Int) := (hgr.block F (h.lt F h5) hFr).trans h3
  have hDC : DC W1 B m d.room d.used d.fuse d.down := (hgr.block B (h.lt B h.inB) hBr).trans h.cells
  have hsz : (W1.setCell ⟨F, 0, none⟩ v').heap.size = W1.heap.size := by simp [World.setCell]
  have hrF : ∀ r, v'.ownBlock = some r → r ≠ F := fun r hr e => by
    subst e
    obtain ⟨cur, hcur⟩ := ownsRow_obj hO hr
    unfold FC at hFC
    rw [hFC] at hcur; simp at hcur
  have hc1 : Chg S W W1 := Chg.of_grown hgr (fun k hk => h6 k hk)
  refine ⟨h.setF hg (fun b hb => .inl hb) (fun r hr => ?_) (fun r hr hne hne' => ?_) v' (b ++ c) s (by rw [List.length_append]; omega) (by rw [List.length_append]; exact hlen) (hFC.set0 v') ?_ ?_, hc1.trans (Chg.set W1 ⟨F, 0, none⟩ v' h5), hDC, hFC, (h.neB hg).1⟩
  · rw [hsz]
    rcases hr with hr | ⟨_, hr⟩
    · exact Nat.lt_of_lt_of_le (h.lt r hr) hgr.size
    · exact hr
  · rw [heap_setCell_other W1 ⟨F, 0, none⟩ r v' hne]
    exact hgr.block r (h.lt r hr) hne'
  · exact ownsRow_blk hO fun r hr => heap_setCell_other W1 ⟨F, 0, none⟩ r v' (hrF r hr)
  · intro r hr
    rcases hlies r hr with h' | h'
    · exact ⟨.inl (h6 r h'), fun _ => h'⟩
    · exact ⟨.inr ⟨h', (hO.lt r hr).2⟩, fun hS => by have := h.lt r hS; omega⟩
/-- .. and what a walk reads there -/
theorem DKat.growF (h : DKat W B m n g sl d S) {x : List UInt8} {F : Nat} {b : List UInt8} {s : Nat} (hg : g x = some F) (hf : d.f x = some (b, s)) {c : List UInt8} (hlen : b.length + c.length ≤ 1000000000) {v' v0 : Value} {W1 : World} (hv0 : sl x = v0) (hO : OB W1 0 v' (b ++ c)) (hgr : W.grownBy W1 v0.ownBlock)
    (hlies : ∀ r, v'.ownBlock = some r → v0.ownBlock = some r ∨ r = W.heap.size) (used : Int) (hu : d.used = used) :
    ∃ A L c', v' = .slice A L c' ∧ Hid (DKat (W1.setCell ⟨F, 0, none⟩ (.slice A L c')) B m n g (fun y => if y = x then .slice A L c' else sl y) { d with f := updF d.f x (some (b ++ c, s)) } (fun r => S r ∨ r = W.heap.size ∧ r < W1.heap.size)) ∧ Hid (Chg S W (W1.setCell ⟨F, 0, none⟩ (.slice A L c'))) ∧
      (W1.setCell ⟨F, 0, none⟩ (.slice A L c')).cell? ⟨B, 2, none⟩ = some (.int .i64 used) ∧ (W1.setCell ⟨F, 0, none⟩ (.slice A L c')).frozen? ⟨B, 2, none⟩ = false ∧ W1.frozen? ⟨F, 0, none⟩ = false ∧ W1.frozen? ⟨B, 2, none⟩ = false ∧ W1.cell? ⟨F, 0, none⟩ = some v0 ∧ F ≠ B ∧ W1.cell? ⟨B, 2, none⟩ = some (.int .i64 used) := by
  subst hv0
  obtain ⟨A, c', e, -, -, -⟩ := hO.reads.form
  subst e
  obtain ⟨k1, k2, k3, k4, k5⟩ := h.grow hg hf hlen hO hgr hlies
  have e2 := k3.cell.2.2.1
  rw [hu] at e2
  exact ⟨A, _, c', rfl, k1, k2, (cell_set_ne W1 ⟨F, 0, none⟩ ⟨B, 2, none⟩ _ (Ne.symm k5)).trans e2, (frozen_set_ne W1 ⟨F, 0, none⟩ ⟨B, 2, none⟩ _ (Ne.symm k5)).trans (k3.frozen 2), k4.frozen 0, k3.frozen 2, k4.cell.1, k5, e2⟩
theorem app_some {d : Dsk} {x b c : List UInt8} {s : Nat} (h : d.f x = some (b, s)) : d.app x c = { d with f := updF d.f x (some (b ++ c, s)), used := d.used + c.length } := by
  unfold Dsk.app fold
  rw [h]; rfl
theorem app_none {d : Dsk} {x c : List UInt8} (h : d.f x = none) : d.app x c = { d with f := updF (updF d.f x (some ([], 0))) x (some ([] ++ c, 0)), used := d.used + c.length } := by
  unfold Dsk.app fold
  rw [h, updF_idem]; rfl
set_option maxRecDepth 100000 in
set_option maxHeartbeats 4000000 in
/-- **Append** to a file that is there -/
theorem dappend_some (w : World) (h : DKat w B m n g sl d S) (hdn : d.down = false) (hsm : d.small) (x : List UInt8) (hok : okNm x) (v : Value) (c : List UInt8) (hv : SB w v c) (hcl : c.length ≤ 1000000) (hroom : (c.length : Int) ≤ d.room - d.used)
    (F : Nat) (b : List UInt8) (s : Nat) (hg : g x = some F) (hf : d.f x = some (b, s)) (hbl : b.length ≤ 100000000) :
    Calls Try.prog 8 #[.pointer (some ⟨B, 0, none⟩), encStr x, v] w fun e w' => e = .returned (.int .i64 (if (d.app x c).chg.down then 10 else 0)) ∧ DPost w B n (d.app x c).chg S w' := by
  obtain ⟨A, cc, rfl, hc1, hc2, -⟩ := hv.form
  have hnl := hok.len
  have hc := h.cells
  rw [hdn] at hc
  have hts := TS_lit w x
  have HA := Lib.hid (dasked_ok (w.alloc (.cells #[encStr x] 9)) B m d.room d.used d.fuse _ [x] ((h.alloc (.cells #[encStr x] 9)).cells |> fun q => by rw [hdn] at q; exact q) hts (by simpa using hok) (by simp))
  obtain ⟨sm1, sm2, sm3, sm4, sm5, sm6⟩ := id hsm
  obtain ⟨cl, hcle⟩ : ∃ q, c.length = q := ⟨_, rfl⟩
  obtain ⟨room, hre⟩ : ∃ q, d.room = q := ⟨_, rfl⟩
  obtain ⟨used, hue⟩ : ∃ q, d.used = q := ⟨_, rfl⟩
  have x1 : IntKind.i64.wrap (room - used) = room - used := IntWalk.i64_in _ (by omega)
  have x2 : IntKind.i64.wrap (used + (cl : Int)) = used + (cl : Int) := IntWalk.i64_in _ (by omega)
  have d1 : decide (room - used < (cl : Int)) = false := decide_eq_false (by omega)
  have HV := Lib.hid hv
  have HH := Lib.hid h
  have HDN := Lib.hid hdn
  have HSM := Lib.hid hsm
  have HG := Lib.hid hg
  have HF := Lib.hid hf
  have HBL := Lib.hid hbl
  have HCL : Hid (c.length ≤ 1000000) := hcl
  have HCE := Lib.hid hcle
  have HRE := Lib.hid hre
  have HUE := Lib.hid hue
  have h0 := (Below.refl w.heap.size w).alloc (Nat.le_refl _) (.cells #[encStr x] 9)
  have H0 := Lib.hid h0
  rw [hcle] at hc1 ⊢
  clear hts h hc hv hdn hsm hg hf hbl hroom h0 hcl hcle hre hue sm1 sm2 sm3 sm4 sm5 sm6
  obtain ⟨rr, hrr⟩ : ∃ q : Int, (if (d.app x c).chg.down then (10 : Int) else 0) = q := ⟨_, rfl⟩
  rw [hrr]
  have HRR := Lib.hid hrr
  clear hrr
  go_enter Try.func8, Try.ntmps8
  go_wp2_with fail
  refine HA.out.mono ?_
  rintro e w1 ⟨rfl, hb1⟩
  have hbl := H0.out.trans (hb1.mono (by rw [alloc_size]; omega))
  have HBL1 := Lib.hid hbl
  have hk := HH.out.below hbl
  obtain ⟨c0, c1, c2, c3, c4⟩ := hk.cells.cell
  rw [HRE.out] at c1
  rw [HUE.out] at c2
  clear hk HA hb1 H0 hbl c0 c3 c4
  go_wp2
  go_quiet (fail)
  have hbl := below_drewN HBL1.out nq
  obtain ⟨w3, hw3⟩ : ∃ q, w1.drewN nq = q := ⟨_, rfl⟩
  rw [hw3] at hbl ⊢
  clear hw3 HBL1 c1 c2
  clear w1
  have hk := HH.out.below hbl
  have hsb := HV.out.below hbl
  rw [HCE.out] at hsb
  obtain ⟨c0, c1, c2, c3, c4⟩ := hk.cells.cell
  rw [HUE.out] at c2
  obtain ⟨b0, s0, q1, q2, q3, q4, q5, q6, q7⟩ := hk.file x F HG.out
  rw [HF.out] at q1
  have eqb : b0 = b ∧ s0 = s := by simp at q1; exact ⟨q1.1.symm, q1.2.symm⟩
  obtain ⟨rfl, rfl⟩ := eqb
  have hlook := hk.map.look (t := 35) (e := 39) keyS Try.underlying35 (fun w => by kernel_rfl) (keyOfS x (by omega))
  rw [HG.out] at hlook
  have hlook' : (Instr.lookup 35 (.map (some m)) (encStr x) false).run Try.prog w3 = .ok (.pointer (some ⟨F, 0, none⟩)) w3 := hlook
  obtain ⟨v0, hv0⟩ : ∃ q, sl x = q := ⟨_, rfl⟩
  rw [hv0] at q4 q5 q7
  obtain ⟨f0, f1⟩ := q4.cell
  obtain ⟨A0, cp0, hv0e, -, -, -⟩ := q5.reads.form
  have HK := Lib.hid hk
  have HQ5 := Lib.hid q5
  have HV0 := Lib.hid hv0
  have HSB := Lib.hid hsb
  have HBW := Lib.hid hbl
  have HQ3 := Lib.hid q3
  clear hk hsb hbl q1 q2 q3 q4 q5 q6 q7 hv0 hlook HV
  subst hv0e
  have HR := Lib.hid (fun (w2 : World) (v' : Value) (hO : OB w2 0 v' (b0 ++ c)) hgr hlies => DKat.growF HK.out HG.out HF.out (by have := HBL.out; have := HCL.out; omega) HV0.out hO hgr hlies used HUE.out)
  go_wp2_with (at_builtin; refine wpB_lies rfl _ _ rfl 0 _ _ _ c rfl HQ5.out rfl HSB.out (by have := HQ3.out; have := HCL.out; omega) (Nat.zero_le _) ?_; intro v' w2 hO hgr hlies; obtain ⟨A', L, c', hv', K1, K2, e2, fz2, fz, fz3, e3, nFB, e4⟩ := HR.out w2 v' hO hgr hlies; subst hv'; clear hO hgr hlies)
  have hd' : ({ d with f := updF d.f x (some (b0 ++ c, s0)), used := used + (cl : Int) } : Dsk) = d.app x c := by rw [app_some HF.out, HUE.out, HCE.out]
  obtain ⟨sl2, hsl2⟩ : ∃ q : List UInt8 → Value, q = fun y => if y = x then Value.slice A' L c' else sl y := ⟨_, rfl⟩
  obtain ⟨S2, hS2⟩ : ∃ q : Nat → Prop, q = fun r => S r ∨ r = w3.heap.size ∧ r < w2.heap.size := ⟨_, rfl⟩
  have hk2 := K1.out.set2 (used + (cl : Int))
  rw [hd', ← hsl2, ← hS2] at hk2
  have hsm2 : (d.app x c).small := by
    rw [← hd']
    obtain ⟨s1, s2, s3, s4, s5, s6⟩ := HSM.out
    rw [HRE.out] at s3 s4
    rw [HUE.out] at s1 s2
    exact ⟨by show _ ≤ used + (cl : Int); omega, by show used + (cl : Int) ≤ _; have := of_decide_eq_false d1; omega, by show _ ≤ d.room; rw [HRE.out]; exact s3, by show d.room ≤ _; rw [HRE.out]; exact s4, s5, s6⟩
  have hdn2 : (d.app x c).down = false := by rw [← hd']; exact HDN.out
  have hcg : Chg S w ((w2.setCell ⟨F, 0, none⟩ (.slice A' L c')).setCell ⟨B, 2, none⟩ (.int .i64 (used + (cl : Int)))) := ((Chg.of_below HBW.out).trans K2.out).trans (Chg.set _ ⟨B, 2, none⟩ _ HH.out.inB)
  have hfr : Fr S S2 w := by rw [hS2]; exact fun r hr => hr.imp id (fun h => by have := HBW.out.size; omega)
  refine (dchange_any _ hk2 hdn2 hsm2 16 #[] (fun _ => rfl) (fun w' => DKat w' B m n g sl2 (d.app x c).chg S2 ∧ Chg S2 ((w2.setCell ⟨F, 0, none⟩ (.slice A' L c')).setCell ⟨B, 2, none⟩ (.int .i64 (used + (cl : Int)))) w') (fun w1 k1 k2 k3 k4 => (dapp1_any w1).mono (fun e w' h => ⟨h.1, by rw [h.2]; exact k1, by rw [h.2]; exact k2⟩))).mono ?_
  rintro e w4 (⟨z1, rfl, z2, z3, -⟩ | ⟨z1, rfl, z2, z3⟩)
  · obtain rfl : rr = 10 := by rw [← HRR.out, if_pos z1]
    have HZ2 := Lib.hid z2
    have HZ3 := Lib.hid (hcg.next z3 hfr)
    have HFR := Lib.hid hfr
    clear z1 z2 z3 hd' hk2 hsm2 hdn2 hcg hfr
    go_wp2
    go_ret
    exact ⟨rfl, _, ⟨_, _, _, HZ2.out⟩, HZ3.out, HFR.out⟩
  · obtain rfl : rr = 0 := by rw [← HRR.out, if_neg (by rw [z1]; simp)]
    have HZ2 := Lib.hid z2
    have HZ3 := Lib.hid (hcg.next z3 hfr)
    have HFR := Lib.hid hfr
    clear z1 z2 z3 hd' hk2 hsm2 hdn2 hcg hfr
    go_wp2
    go_ret
    exact ⟨rfl, _, ⟨_, _, _, HZ2.out⟩, HZ3.out, HFR.out⟩
end Go.Proofs.Ytbcnalabalegfaa

/- Append to a file that is not there. -/
import Derived.RangeFuncNested
import Derived.RangeFuncBound
import Derived.RangeFuncCalls
import Derived.RangeFuncLeaves
import Derived.Shelf.Abstract
import Derived.Shelf.RegionOpen
import Derived.WalkKit
import Derived.OwnWalkIn
import Derived.TacticsInMore
import Derived.LoopNIn
import Derived.LoopIn
import Derived.Outline
import Derived.Lib.Hide
import Derived.Lib.SliceRun
import Derived.IntWalk
import Derived.WalkLawsBesides
import Derived.WalkSpells
import Derived.Laws.BitsAllLaws
import Derived.Lib.ConvBytes
import Derived.Maps.AppendAt
import Derived.Lib.AppendStr
import Derived.Lib.SlBytesConst
import Derived.Laws.AppendOwnNone
import Derived.Laws.OwnMore
import Derived.Laws.BytesArg
import Derived.Deep.RegionHeld3
import Derived.BigQuiet
import Derived.Deep.RegionLaw
import Derived.Deep.QuietTactic
import Derived.Lib.OthersKept
import Derived.Test.YtbcnalabalegfaaProg
import Derived.Deep.DeepFit
import Derived.Test.YtbcnalabalegfaaDsE
set_option linter.unusedVariables false
set_option linter.unusedSimpArgs false
namespace Go.Proofs.Ytbcnalabalegfaa
open Go Go.RowKit Go.Shelf
open Go.Proofs (encStr)
variable {W W' : World} {B m n : Nat} {g : List UInt8 → Option Nat} {sl : List UInt8 → Value} {d : Dsk} {S : Nat → Prop}

/-- an empty file more -/
theorem DKat.fresh (h : DKat W B m n g sl d S) (x : List UInt8) (hx : x.length ≤ 1000000) (hn : n ≤ 1000000) :
    ∃ W4, (Instr.mapUpdate 35 (.map (some m)) (encStr x) (.pointer (some ⟨W.heap.size, 0, none⟩))).run Try.prog (W.alloc (.cells #[.slice none 0 0, .int .i64 0] 41)) = .ok () W4 ∧
      DKat W4 B m (n + 1) (updF g x (some W.heap.size)) (fun y => if y = x then .slice none 0 0 else sl y) { d with f := updF d.f x (some ([], 0)) } (fun b => S b ∨ b = W.heap.size) ∧ Chg S W W4 ∧ (∀ b, b < W.heap.size → b ≠ m → W4.heap[b]? = W.heap[b]?) ∧ W.heap.size + 1 ≤ W4.heap.size := by
  have hs : (W.alloc (.cells #[.slice none 0 0, .int .i64 0] 41)).heap.size = W.heap.size + 1 := alloc_size _ _
  obtain ⟨W4, hr, hpm, hg⟩ := (h.map.block (W' := W.alloc (.cells #[.slice none 0 0, .int .i64 0] 41)) (heap_alloc_old _ _ _ h.map.lt)).put litS_inj litS_key keyS Try.underlying35 hn (keyOfS x hx) W.heap.size
  have hsz := hg.size
  rw [hs] at hsz
  have hmlt := h.lt m h.inM
  have hb : ∀ b, b < W.heap.size → b ≠ m → W4.heap[b]? = W.heap[b]? := fun b hb hne => (hg.block b (by rw [hs]; omega) (fun e => hne (by injection e))).trans (heap_alloc_old _ _ _ hb)
  have hF : FC W4 W.heap.size (.slice none 0 0) ((0 : Nat) : Int) := by
    unfold FC
    rw [hg.block W.heap.size (by rw [hs]; omega) (fun e => by injection e; omega), heap_alloc_new]
    rfl
  refine ⟨W4, hr, ?_, (Chg.alloc S W _).trans (Chg.of_grown hg fun k hk => by cases hk; exact h.inM), hb, hsz⟩
  refine h.put x W.heap.size (n + 1) (fun b hb => .inl hb) (fun b hb' => ?_) (fun b hbS hne => hb b (h.lt b hbS) hne) hpm (.slice none 0 0) [] 0 (Nat.le_refl _) (by simp) hF (World.ownsRow_nil _ _ _ _) (.inr rfl) (fun r hr => by simp [Value.ownBlock] at hr) (fun y hy e => ?_) (fun y r _ _ _ e => by simp [Value.ownBlock] at e)
  · rcases hb' with hb' | rfl
    · have := h.lt b hb'; omega
    · omega
  · obtain ⟨b0, s0, h1, h2, h2', h3, h4, h5, h6⟩ := h.file y _ e
    have := h.lt _ h5
    omega
set_option maxRecDepth 100000 in
set_option maxHeartbeats 4000000 in
/-- **Append** to a file that is not there -/
theorem dappend_none (w : World) (h : DKat w B m n g sl d S) (hdn : d.down = false) (hsm : d.small) (x : List UInt8) (hok : okNm x) (v : Value) (c : List UInt8) (hv : SB w v c) (hcl : c.length ≤ 1000000) (hroom : (c.length : Int) ≤ d.room - d.used)
    (hf : d.f x = none) (hn : n ≤ 1000000) :
    Calls Try.prog 8 #[.pointer (some ⟨B, 0, none⟩), encStr x, v] w fun e w' => e = .returned (.int .i64 (if (d.app x c).chg.down then 10 else 0)) ∧ DPost w B (n + 1) (d.app x c).chg S w' := by
  obtain ⟨A, cc, rfl, hc1, hc2, -⟩ := hv.form
  have hnl := hok.len
  have hc := h.cells
  rw [hdn] at hc
  have hts := TS_lit w x
  have HA := Lib.hid (dasked_ok (w.alloc (.cells #[encStr x] 9)) B m d.room d.used d.fuse _ [x] ((h.alloc (.cells #[encStr x] 9)).cells |> fun q => by rw [hdn] at q; exact q) hts (by simpa using hok) (by simp))
  obtain ⟨sm1, sm2, sm3, sm4, sm5, sm6⟩ := id hsm
  obtain ⟨cl, hcle⟩ : ∃ q, c.length = q := ⟨_, rfl⟩
  obtain ⟨room, hre⟩ : ∃ q, d.room = q := ⟨_, rfl⟩
  obtain ⟨used, hue⟩ : ∃ q, d.used = q := ⟨_, rfl⟩
  have x1 : IntKind.i64.wrap (room - used) = room - used := IntWalk.i64_in _ (by omega)
  have x2 : IntKind.i64.wrap (used + (cl : Int)) = used + (cl : Int) := IntWalk.i64_in _ (by omega)
  have d1 : decide (room - used < (cl : Int)) = false := decide_eq_false (by omega)
  have HV := Lib.hid hv
  have HH := Lib.hid h
  have HDN := Lib.hid hdn
  have HSM := Lib.hid hsm
  have HF := Lib.hid hf
  have HCL : Hid (c.length ≤ 1000000) := hcl
  have HCE := Lib.hid hcle
  have HRE := Lib.hid hre
  have HUE := Lib.hid hue
  have h0 := (Below.refl w.heap.size w).alloc (Nat.le_refl _) (.cells #[encStr x] 9)
  have H0 := Lib.hid h0
  rw [hcle] at hc1 ⊢
  clear hts h hc hv hdn hsm hf hroom h0 hcl hcle hre hue sm1 sm2 sm3 sm4 sm5 sm6
  obtain ⟨rr, hrr⟩ : ∃ q : Int, (if (d.app x c).chg.down then (10 : Int) else 0) = q := ⟨_, rfl⟩
  rw [hrr]
  have HRR := Lib.hid hrr
  clear hrr
  go_enter Try.func8, Try.ntmps8
  go_wp2_with fail
  refine HA.out.mono ?_
  rintro e w1 ⟨rfl, hb1⟩
  have hbl := H0.out.trans (hb1.mono (by rw [alloc_size]; omega))
  have HBL1 := Lib.hid hbl
  have hk := HH.out.below hbl
  obtain ⟨c0, c1, c2, c3, c4⟩ := hk.cells.cell
  rw [HRE.out] at c1
  rw [HUE.out] at c2
  clear hk HA hb1 H0 hbl c0 c3 c4
  go_wp2
  go_quiet (fail)
  have hbl := below_drewN HBL1.out nq
  obtain ⟨w3, hw3⟩ : ∃ q, w1.drewN nq = q := ⟨_, rfl⟩
  rw [hw3] at hbl ⊢
  clear hw3 HBL1 c1 c2
  clear w1
  have hk := HH.out.below hbl
  have hsb := HV.out.below hbl
  rw [HCE.out] at hsb
  obtain ⟨c0, c1, c2, c3, c4⟩ := hk.cells.cell
  rw [HUE.out] at c2
  have hgn : g x = none := by have := HH.out.dom x; rw [HF.out] at this; simpa using this
  have hlook := hk.map.look (t := 35) (e := 39) keyS Try.underlying35 (fun w => by kernel_rfl) (keyOfS x (by omega))
  rw [hgn] at hlook
  have hlook' : (Instr.lookup 35 (.map (some m)) (encStr x) false).run Try.prog w3 = .ok (.pointer none) w3 := hlook
  have c0' : (w3.alloc (.cells #[.slice none 0 0, .int .i64 0] 41)).cell? ⟨B, 0, none⟩ = some (.map (some m)) := (((Below.refl w3.heap.size w3).alloc (Nat.le_refl _) _).cell (p := ⟨B, 0, none⟩) (hk.lt B hk.inB)).trans c0
  obtain ⟨w4, hput, hk4, hcg4, hbk4, hsz4⟩ := hk.fresh x (by omega) hn
  obtain ⟨F, hFe⟩ : ∃ q, w3.heap.size = q := ⟨_, rfl⟩
  have HM := Lib.hid hk.map.obj
  have hsb4 := SB.map hsb hk.map.obj hbk4
  rw [hFe] at hput hk4 hsz4
  have HFE := Lib.hid hFe
  have hg4 : updF g x (some F) x = some F := updF_same _ _ _
  have hf4 : updF d.f x (some ([], 0)) x = some ([], 0) := updF_same _ _ _
  obtain ⟨b1, s1, q1, q2, q3, q4, q5, q6, q7⟩ := hk4.file x F hg4
  have eqb : b1 = [] ∧ s1 = 0 := by rw [show ({ d with f := updF d.f x (some ([], 0)) } : Dsk).f x = some ([], 0) from hf4] at q1; simp at q1; exact ⟨by first | exact q1.1 | exact q1.1.symm, by first | exact q1.2 | exact q1.2.symm⟩
  obtain ⟨rfl, rfl⟩ := eqb
  rw [if_pos rfl] at q4 q5 q7
  obtain ⟨e0, e1, e2', e3, e4⟩ := hk4.cells.cell
  obtain ⟨f0, f1⟩ := q4.cell
  have hc4 := (Chg.of_below (S := S) hbl).trans hcg4
  have HK := Lib.hid hk4
  have HQ5 := Lib.hid q5
  have HV0 : Hid ((fun y => if y = x then (.slice none 0 0 : Value) else sl y) x = .slice none 0 0) := if_pos rfl
  have HSB := Lib.hid hsb4
  have HC4 := Lib.hid hc4
  have HBW := Lib.hid hbl
  have HG4 := Lib.hid hg4
  have HF4 := Lib.hid hf4
  rw [show ({ d with f := updF d.f x (some ([], 0)) } : Dsk).used = used from HUE.out] at e2'
  clear hk hsb hbl q1 q2 q3 q4 q5 q6 q7 hlook hk4 hcg4 hbk4 hsb4 hg4 hf4 hgn hc4 HV
  have HR := Lib.hid (fun (w2 : World) (v' : Value) (hO : OB w2 0 v' ([] ++ c)) hgr hlies => DKat.growF HK.out HG4.out HF4.out (by have := HCL.out; simp; omega) HV0.out hO hgr hlies used HUE.out)
  go_wp2_with (at_builtin; refine wpB_lies rfl _ _ rfl 0 _ _ _ c rfl HQ5.out rfl HSB.out (by have := HCL.out; simp; omega) (Nat.zero_le _) ?_; intro v' w2 hO hgr hlies; obtain ⟨A', L, c', hv', K1, K2, e2, fz2, fz, fz3, e3, nFB, e4⟩ := HR.out w2 v' hO hgr hlies; subst hv'; clear hO hgr hlies)
  have hd' : ({ d with f := updF (updF d.f x (some ([], 0))) x (some ([] ++ c, 0)), used := used + (cl : Int) } : Dsk) = d.app x c := by rw [app_none HF.out, HUE.out, HCE.out]
  obtain ⟨sl2, hsl2⟩ : ∃ q : List UInt8 → Value, q = fun y => if y = x then Value.slice A' L c' else if y = x then .slice none 0 0 else sl y := ⟨_, rfl⟩
  obtain ⟨S2, hS2⟩ : ∃ q : Nat → Prop, q = fun r => (S r ∨ r = F) ∨ r = w4.heap.size ∧ r < w2.heap.size := ⟨_, rfl⟩
  have hk2 := K1.out.set2 (used + (cl : Int))
  rw [hd', ← hsl2, ← hS2] at hk2
  have hsm2 : (d.app x c).small := by
    rw [← hd']
    obtain ⟨s1, s2, s3, s4, s5, s6⟩ := HSM.out
    rw [HRE.out] at s3 s4
    rw [HUE.out] at s1 s2
    exact ⟨by show _ ≤ used + (cl : Int); omega, by show used + (cl : Int) ≤ _; have := of_decide_eq_false d1; omega, by show _ ≤ d.room; rw [HRE.out]; exact s3, by show d.room ≤ _; rw [HRE.out]; exact s4, s5, s6⟩
  have hdn2 : (d.app x c).down = false := by rw [← hd']; exact HDN.out
  have hcg : Chg S w ((w2.setCell ⟨F, 0, none⟩ (.slice A' L c')).setCell ⟨B, 2, none⟩ (.int .i64 (used + (cl : Int)))) := (HC4.out.next K2.out (fun b hb => hb.imp id (fun e => by have := HBW.out.size; have := HFE.out; omega))).trans (Chg.set _ ⟨B, 2, none⟩ _ HH.out.inB)
  have hfr : Fr S S2 w := by rw [hS2]; exact fun r hr => hr.elim (fun h => h.imp id (fun e => by have := HBW.out.size; have := HFE.out; omega)) (fun h => .inr (by have := HC4.out.size; omega))
  refine (dchange_any _ hk2 hdn2 hsm2 16 #[] (fun _ => rfl) (fun w' => DKat w' B m (n + 1) (updF g x (some F)) sl2 (d.app x c).chg S2 ∧ Chg S2 ((w2.setCell ⟨F, 0, none⟩ (.slice A' L c')).setCell ⟨B, 2, none⟩ (.int .i64 (used + (cl : Int)))) w') (fun w1 k1 k2 k3 k4 => (dapp1_any w1).mono (fun e w' h => ⟨h.1, by rw [h.2]; exact k1, by rw [h.2]; exact k2⟩))).mono ?_
  rintro e w4 (⟨z1, rfl, z2, z3, -⟩ | ⟨z1, rfl, z2, z3⟩)
  · obtain rfl : rr = 10 := by rw [← HRR.out, if_pos z1]
    have HZ2 := Lib.hid z2
    have HZ3 := Lib.hid (hcg.next z3 hfr)
    have HFR := Lib.hid hfr
    clear z1 z2 z3 hd' hk2 hsm2 hdn2 hcg hfr
    go_wp2
    go_ret
    exact ⟨rfl, _, ⟨_, _, _, HZ2.out⟩, HZ3.out, HFR.out⟩
  · obtain rfl : rr = 0 := by rw [← HRR.out, if_neg (by rw [z1]; simp)]
    have HZ2 := Lib.hid z2
    have HZ3 := Lib.hid (hcg.next z3 hfr)
    have HFR := Lib.hid hfr
    clear z1 z2 z3 hd' hk2 hsm2 hdn2 hcg hfr
    go_wp2
    go_ret
    exact ⟨rfl, _, ⟨_, _, _, HZ2.out⟩, HZ3.out, HFR.out⟩
end Go.Proofs.Ytbcnalabalegfaa

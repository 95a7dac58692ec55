/- Root, of both. -/
import Derived.RangeFuncNested
import Derived.RangeFuncBound
import Derived.RangeFuncCalls
import Derived.RangeFuncLeaves
import Derived.Shelf.Abstract
import Derived.Shelf.RegionOpen
import Derived.WalkKit
import Derived.OwnWalkIn
import Derived.TacticsInMore
import Derived.LoopNIn
import Derived.LoopIn
import Derived.Outline
import Derived.Lib.Hide
import Derived.Lib.SliceRun
import Derived.IntWalk
import Derived.WalkLawsBesides
import Derived.WalkSpells
import Derived.Laws.BitsAllLaws
import Derived.Lib.ConvBytes
import Derived.Maps.AppendAt
import Derived.Lib.AppendStr
import Derived.Lib.SlBytesConst
import Derived.Laws.AppendOwnNone
import Derived.Laws.OwnMore
import Derived.Laws.BytesArg
import Derived.Deep.RegionHeld3
import Derived.BigQuiet
import Derived.Deep.RegionLaw
import Derived.Deep.QuietTactic
import Derived.Lib.OthersKept
import Derived.Test.YtkipnhhdlohnfaaProg
import Derived.Deep.DeepFit
import Derived.Test.YtkipnhhdlohnfaaMkC
import Derived.Test.YtkipnhhdlohnfaaDgL
set_option linter.unusedVariables false
set_option linter.unusedSimpArgs false
namespace Go.Proofs.Ytkipnhhdlohnfaa
open Go Go.RowKit Go.Shelf

/-- the root of leaves -/
def rootL (ls : List (List UInt8)) : List UInt8 :=
  if h : 2 ≤ ls.length then nodeL (rootL (ls.take (hlf ls.length))) (rootL (ls.drop (hlf ls.length)))
  else (match ls with | [] => sumL [] | x :: _ => x)
termination_by ls.length
decreasing_by
  · have := hlf_range ls.length h; rw [List.length_take]; omega
  · have := hlf_range ls.length h; rw [List.length_drop]; omega
theorem rootL_nil : rootL [] = sumL [] := by rw [rootL]; rfl
theorem rootL_one (x : List UInt8) : rootL [x] = x := by rw [rootL]; rfl
theorem rootL_two (ls : List (List UInt8)) (h : 2 ≤ ls.length) : rootL ls = nodeL (rootL (ls.take (hlf ls.length))) (rootL (ls.drop (hlf ls.length))) := by
  rw [rootL, dif_pos h]
theorem rootL_length (ls : List (List UInt8)) (h : ∀ x ∈ ls, x.length = 32) : (rootL ls).length = 32 := by
  by_cases h2 : 2 ≤ ls.length
  · rw [rootL_two ls h2]; exact nodeL_length _ _
  · match ls with
    | [] => rw [rootL_nil]; exact sumL_length _
    | [x] => rw [rootL_one]; exact h x (by simp)
    | _ :: _ :: _ => simp at h2

set_option maxHeartbeats 2000000 in
set_option maxRecDepth 100000 in
theorem root_two (v : Value) (ls : List (List UInt8)) (w : World) (hv : HS w v ls) (h2 : 2 ≤ ls.length)
    (IH : ∀ v' ls' w', ls'.length < ls.length → HS w' v' ls' → Calls Try.prog 22 #[v'] w' fun e w'' => e = .returned (.agg (enc8 (rootL ls')).toArray) ∧ Below w'.heap.size w' w'') :
    Calls Try.prog 22 #[v] w fun e w' => e = .returned (.agg (enc8 (rootL ls)).toArray) ∧ Below w.heap.size w w' := by
  obtain ⟨C, c, rfl, hc, -⟩ := hv.form
  obtain ⟨W, A, hW, hA, hsz, r0, hb⟩ := one_new w
  have hth := r0.there 32 rfl
  have hk := hlf_range ls.length h2
  have hh := fun w => half_any ls.length (by omega) w
  obtain ⟨k, hke⟩ : ∃ k, hlf ls.length = k := ⟨_, rfl⟩
  rw [rootL_two ls h2]
  rw [hke] at hk ⊢
  simp only [hke] at hh
  obtain ⟨n, hn⟩ : ∃ n, ls.length = n := ⟨_, rfl⟩
  have ka := fun w => sums_runh C n c k (by omega) (k : Int) rfl w
  have kb := fun w => sums_run1 C n c k (by omega) (k : Int) rfl (n - k) (c - k) rfl rfl w
  have qa : ∀ w', Below w.heap.size w w' → Calls Try.prog 22 #[.slice C k c] w' fun e w'' => e = .returned (.agg (enc8 (rootL (ls.take k))).toArray) ∧ Below w'.heap.size w' w'' := fun w' hb' =>
    IH _ _ _ (by rw [List.length_take]; omega) ((hv.below hb').take k (by omega))
  have qb : ∀ w', Below w.heap.size w w' → Calls Try.prog 22 #[.slice (cutS C c k) (n - k) (c - k)] w' fun e w'' => e = .returned (.agg (enc8 (rootL (ls.drop k))).toArray) ∧ Below w'.heap.size w' w'' := fun w' hb' =>
    IH _ _ _ (by rw [List.length_drop]; omega) ((hv.below hb').drop k (n - k) (c - k) (by omega) (by omega) rfl)
  have la := rootL_length (ls.take k) (fun x hx => hv.all x (List.mem_of_mem_take hx))
  have lb := rootL_length (ls.drop k) (fun x hx => hv.all x (List.mem_of_mem_drop hx))
  obtain ⟨ra, hra⟩ : ∃ ra, rootL (ls.take k) = ra := ⟨_, rfl⟩
  obtain ⟨rb, hrb⟩ : ∃ rb, rootL (ls.drop k) = rb := ⟨_, rfl⟩
  rw [hra] at la
  rw [hrb] at lb
  simp only [hra] at qa
  simp only [hrb] at qb
  rw [hra, hrb]
  have hnode := fun w => node_any ra rb la lb w
  have hnl := nodeL_length ra rb
  obtain ⟨out, hout⟩ : ∃ out, nodeL ra rb = out := ⟨_, rfl⟩
  rw [hout] at hnl ⊢
  simp only [hout] at hnode
  have hi := info32 out hnl
  have hh1 := enc8_one out
  have hol : (enc8 out).length = 32 := by rw [enc8_len, hnl]
  obtain ⟨ao, hao⟩ : ∃ ao, enc8 out = ao := ⟨_, rfl⟩
  rw [hao] at hi hh1 hol ⊢
  simp only [hao] at hnode
  obtain ⟨aa, haa⟩ : ∃ aa, enc8 ra = aa := ⟨_, rfl⟩
  obtain ⟨ab, hab⟩ : ∃ ab, enc8 rb = ab := ⟨_, rfl⟩
  simp only [haa, hab] at hnode
  simp only [haa] at qa
  simp only [hab] at qb
  rw [hA] at qa qb
  have hn0 : (n : Int) ≠ 0 := by omega
  have hn1 : (n : Int) ≠ 1 := by omega
  have hn0' : n ≠ 0 := by omega
  have hn1' : n ≠ 1 := by omega
  rw [hn] at hh hv ⊢
  have QA := Lib.hid qa
  have QB := Lib.hid qb
  have HN := Lib.hid hnode
  have HH := Lib.hid hh
  have HW := Lib.hid hW
  have HB := Lib.hid hb
  have HTH := Lib.hid hth
  have HI := Lib.hid hi
  have HO := Lib.hid hh1
  have HL := Lib.hid hol
  have m0 : Mine A w W := ⟨by omega, hb⟩
  have M0 := Lib.hid m0
  clear IH hv r0 hW hb hth hi hh1 hol hnode qa qb hh h2 hk hc la lb hra hrb hnl hout hao haa hab hke hn m0
  go_enter Try.func22, Try.ntmps22
  go_wp2_with fail
  rw [HW.out]
  refine (HH.out _).mono ?_
  rintro e w1 ⟨rfl, rfl⟩
  clear HW HB
  go_wp2_with fail
  refine wp_region_noPanic ?_
  refine wp_region_held_drew (S := (fun w' => Mine A w w' ∧ w'.there A 0 32)) (by kernel_rfl) ?_ (fun hHeld => ?_)
  · exact ⟨⟨M0.out.le, M0.out.bel.drew⟩, (World.there_drew _ _ _ _).2 HTH.out⟩
  refine wpAnyH_take (i := 0) (oi := { dst := some 17, op := Op.move (Operand.tmp 0), type := 29, pos := "merkle.go:38", after := #[], guard := none }) (v := ?v0) rfl (by kernel_rfl) (by kernel_rfl) (by kernel_rfl) (fun _ _ _ h => h) (Or.inl ⟨by rfl, ?y0⟩) (by assumption) ?r0
  case y0 => intro w hSw; (try dsimp only at hSw); go_simp; try with_reducible rfl
  try simp only [Act.put, List.setIfInBounds_toArray, List.set_cons_zero, List.set_cons_succ]
  refine wpAnyH_take (i := 1) (oi := { dst := some 18, op := Op.move (Operand.tmp 3), type := 3, pos := "merkle.go:38", after := #[], guard := none }) (v := ?v1) rfl (by kernel_rfl) (by kernel_rfl) (by kernel_rfl) (fun _ _ _ h => h) (Or.inl ⟨by rfl, ?y1⟩) (by assumption) ?r1
  case y1 => intro w hSw; (try dsimp only at hSw); go_simp; try with_reducible rfl
  try simp only [Act.put, List.setIfInBounds_toArray, List.set_cons_zero, List.set_cons_succ]
  refine wpAnyH_take (i := 2) (oi := { dst := some 19, op := Op.slice 29 (Operand.tmp 17) none (some (Operand.tmp 18)) none, type := 29, pos := "merkle.go:38", after := #[{ on := 0, ground := Ground.data }, { on := 1, ground := Ground.data }], guard := none }) (v := ?v2) rfl (by kernel_rfl) (by kernel_rfl) (by kernel_rfl) (fun _ _ _ h => h) (Or.inl ⟨by rfl, ?y2⟩) (by assumption) ?r2
  case y2 => intro w hSw; (try dsimp only at hSw); go_simp; try with_reducible rfl
  try simp only [Act.put, List.setIfInBounds_toArray, List.set_cons_zero, List.set_cons_succ]
  refine wpAnyH_take (i := 4) (oi := { dst := some 21, op := Op.move (Operand.tmp 0), type := 29, pos := "merkle.go:38", after := #[], guard := none }) (v := ?v4) rfl (by kernel_rfl) (by kernel_rfl) (by kernel_rfl) (fun _ _ _ h => h) (Or.inl ⟨by rfl, ?y4⟩) (by assumption) ?r4
  case y4 => intro w hSw; (try dsimp only at hSw); go_simp; try with_reducible rfl
  try simp only [Act.put, List.setIfInBounds_toArray, List.set_cons_zero, List.set_cons_succ]
  refine wpAnyH_take (i := 5) (oi := { dst := some 22, op := Op.move (Operand.tmp 3), type := 3, pos := "merkle.go:38", after := #[], guard := none }) (v := ?v5) rfl (by kernel_rfl) (by kernel_rfl) (by kernel_rfl) (fun _ _ _ h => h) (Or.inl ⟨by rfl, ?y5⟩) (by assumption) ?r5
  case y5 => intro w hSw; (try dsimp only at hSw); go_simp; try with_reducible rfl
  try simp only [Act.put, List.setIfInBounds_toArray, List.set_cons_zero, List.set_cons_succ]
  refine wpAnyH_take (i := 6) (oi := { dst := some 23, op := Op.slice 29 (Operand.tmp 21) (some (Operand.tmp 22)) none none, type := 29, pos := "merkle.go:38", after := #[{ on := 4, ground := Ground.data }, { on := 5, ground := Ground.data }], guard := none }) (v := ?v6) rfl (by kernel_rfl) (by kernel_rfl) (by kernel_rfl) (fun _ _ _ h => h) (Or.inl ⟨by rfl, ?y6⟩) (by assumption) ?r6
  case y6 => intro w hSw; (try dsimp only at hSw); go_simp; try with_reducible rfl
  try simp only [Act.put, List.setIfInBounds_toArray, List.set_cons_zero, List.set_cons_succ]
  refine wpAnyH_ready (rs := [3]) (by kernel_rfl) (by simp) (AllReadyH.cons (o := { dst := some 20, op := Op.call { callee := Callee.value (Operand.func 22), args := #[Operand.tmp 19], argTypes := #[29] }, type := 24, pos := "merkle.go:38", after := #[{ on := 2, ground := Ground.data }], guard := none }) rfl (fun K hK => ?_) AllReadyH.nil)
  go_simp
  refine (QA.out _ hHeld.1.bel).mono ?_; rintro e w' ⟨rfl, hb⟩
  go_wp2_with fail
  refine hK.out _ _ ?_ (fun hHeld => ?_)
  · (try dsimp only); (go_split_ands; (repeat' apply And.intro) <;> first | assumption | exact Mine.call (by assumption) (by assumption) | exact Mine.alloc (by assumption) _ | exact Mine.setCells (by assumption) _ _ _ (by omega) | exact Mine.callN (by assumption) (by assumption) (by omega) | exact Row.belowN (by assumption) (by assumption) (by omega) | exact there_belowN (by assumption) (by assumption) (by omega) | exact rangeAt_below (by assumption) (by assumption) | exact World.rangeAt_alloc (by assumption) _ | exact there_below (by assumption) (by assumption) | exact World.there_alloc (by assumption) _ | exact World.there_setCells (by assumption) _ _ _ | exact Row.belowS (by assumption) (by assumption) | exact Row.alloc (by assumption) _ | exact Row.setCells (by assumption) _ _ (by omega) | exact HS.below (by assumption) (by assumption) | exact HS.alloc (by assumption) _)
  clear hK K
  try simp only [Act.put, List.setIfInBounds_toArray, List.set_cons_zero, List.set_cons_succ]
  refine wpAnyH_ready (rs := [7]) (by kernel_rfl) (by simp) (AllReadyH.cons (o := { dst := some 24, op := Op.call { callee := Callee.value (Operand.func 22), args := #[Operand.tmp 23], argTypes := #[29] }, type := 24, pos := "merkle.go:38", after := #[{ on := 6, ground := Ground.data }, { on := 3, ground := Ground.chain }], guard := none }) rfl (fun K hK => ?_) AllReadyH.nil)
  go_simp
  refine (QB.out _ hHeld.1.bel).mono ?_; rintro e w' ⟨rfl, hb⟩
  go_wp2_with fail
  refine hK.out _ _ ?_ (fun hHeld => ?_)
  · (try dsimp only); (go_split_ands; (repeat' apply And.intro) <;> first | assumption | exact Mine.call (by assumption) (by assumption) | exact Mine.alloc (by assumption) _ | exact Mine.setCells (by assumption) _ _ _ (by omega) | exact Mine.callN (by assumption) (by assumption) (by omega) | exact Row.belowN (by assumption) (by assumption) (by omega) | exact there_belowN (by assumption) (by assumption) (by omega) | exact rangeAt_below (by assumption) (by assumption) | exact World.rangeAt_alloc (by assumption) _ | exact there_below (by assumption) (by assumption) | exact World.there_alloc (by assumption) _ | exact World.there_setCells (by assumption) _ _ _ | exact Row.belowS (by assumption) (by assumption) | exact Row.alloc (by assumption) _ | exact Row.setCells (by assumption) _ _ (by omega) | exact HS.below (by assumption) (by assumption) | exact HS.alloc (by assumption) _)
  clear hK K
  try simp only [Act.put, List.setIfInBounds_toArray, List.set_cons_zero, List.set_cons_succ]
  refine wpAnyH_ready (rs := [8]) (by kernel_rfl) (by simp) (AllReadyH.cons (o := { dst := some 25, op := Op.call { callee := Callee.value (Operand.func 24), args := #[Operand.tmp 20, Operand.tmp 24], argTypes := #[24, 24] }, type := 24, pos := "merkle.go:38", after := #[{ on := 3, ground := Ground.data }, { on := 7, ground := Ground.data }, { on := 7, ground := Ground.chain }], guard := none }) rfl (fun K hK => ?_) AllReadyH.nil)
  go_simp
  refine (HN.out _).mono ?_; rintro e w2 ⟨rfl, hb⟩; have hi := HI.out; have hh1 := HO.out; have hol := HL.out
  go_wp2_with fail
  refine hK.out _ _ ?_ (fun hHeld => ?_)
  · (try dsimp only); (go_split_ands; (repeat' apply And.intro) <;> first | assumption | exact Mine.call (by assumption) (by assumption) | exact Mine.alloc (by assumption) _ | exact Mine.setCells (by assumption) _ _ _ (by omega) | exact Mine.callN (by assumption) (by assumption) (by omega) | exact Row.belowN (by assumption) (by assumption) (by omega) | exact there_belowN (by assumption) (by assumption) (by omega) | exact rangeAt_below (by assumption) (by assumption) | exact World.rangeAt_alloc (by assumption) _ | exact there_below (by assumption) (by assumption) | exact World.there_alloc (by assumption) _ | exact World.there_setCells (by assumption) _ _ _ | exact Row.belowS (by assumption) (by assumption) | exact Row.alloc (by assumption) _ | exact Row.setCells (by assumption) _ _ (by omega) | exact HS.below (by assumption) (by assumption) | exact HS.alloc (by assumption) _)
  clear hK K
  try simp only [Act.put, List.setIfInBounds_toArray, List.set_cons_zero, List.set_cons_succ]
  have hPre := hHeld
  refine wpAnyH_ready (rs := [9]) (by kernel_rfl) (by simp) (AllReadyH.cons (o := { dst := none, op := Op.store 24 (Operand.tmp 2) (Operand.tmp 25), type := 0, pos := "merkle.go:38", after := #[{ on := 8, ground := Ground.data }, { on := 8, ground := Ground.chain }, { on := 0, ground := Ground.phase }, { on := 1, ground := Ground.phase }, { on := 2, ground := Ground.phase }, { on := 3, ground := Ground.phase }, { on := 4, ground := Ground.phase }, { on := 5, ground := Ground.phase }, { on := 6, ground := Ground.phase }, { on := 7, ground := Ground.phase }, { on := 8, ground := Ground.phase }], guard := none }) rfl (fun K hK => ?_) AllReadyH.nil)
  rw [if_pos (by rfl)]
  refine wp_store_mid _ _ _ rfl _ _ (List.toArray _) rfl rfl (by go_split_ands; first | assumption | (simp only [List.size_toArray, *] <;> assumption)) (by first | assumption | (simp only [List.size_toArray] <;> assumption) | (simp only [List.size_toArray, *]; done)) (all_oneCell_toArray (by assumption)) ?_
  simp only [Act.put, List.setIfInBounds_toArray, List.set_cons_zero, List.set_cons_succ, List.toList_toArray]
  refine hK.out _ _ ?_ (fun hHeld => ?_)
  · (try dsimp only); (go_split_ands; (repeat' apply And.intro) <;> first | assumption | exact Mine.call (by assumption) (by assumption) | exact Mine.alloc (by assumption) _ | exact Mine.setCells (by assumption) _ _ _ (by omega) | exact Mine.callN (by assumption) (by assumption) (by omega) | exact Row.belowN (by assumption) (by assumption) (by omega) | exact there_belowN (by assumption) (by assumption) (by omega) | exact rangeAt_below (by assumption) (by assumption) | exact World.rangeAt_alloc (by assumption) _ | exact there_below (by assumption) (by assumption) | exact World.there_alloc (by assumption) _ | exact World.there_setCells (by assumption) _ _ _ | exact Row.belowS (by assumption) (by assumption) | exact Row.alloc (by assumption) _ | exact Row.setCells (by assumption) _ _ (by omega) | exact HS.below (by assumption) (by assumption) | exact HS.alloc (by assumption) _)
  clear hK K
  refine wpAnyH_done (by kernel_rfl) ?_ _
  refine NoPanic.normal ?_
  have hr := Lib.hid (World.rangeAt_setCells_same w2 A 0 ao (by rw [HL.out]; exact hPre.2))
  have hfin := Lib.hid hHeld.1.bel
  clear hHeld hPre hi hh1 hol hb
  go_wp2
  refine bodyPost_ret (v := .agg ao.toArray) (range_result hr.out Try.results22 _ _ _ rfl Try.underlying24 HI.out) rfl ?_
  exact ⟨rfl, by rw [hA]; exact hfin.out⟩

set_option maxHeartbeats 2000000 in
set_option maxRecDepth 100000 in
theorem root_nil (C : Option Addr) (c : Nat) (w : World) :
    Calls Try.prog 22 #[.slice C 0 c] w fun e w' => e = .returned (.agg (enc8 (sumL [])).toArray) ∧ Below w.heap.size w w' := by
  obtain ⟨W, A, hW, hA, hsz, r0, hb⟩ := one_new w
  have hs := dsum_any (.slice none 0 0) [] W (SB_nil W) (by simp)
  have hol := sumL_length []
  obtain ⟨out, hout⟩ : ∃ out, sumL [] = out := ⟨_, rfl⟩
  rw [hout] at hs hol ⊢
  have HS' := Lib.hid hs
  have HW := Lib.hid hW
  have HB := Lib.hid hb
  have R0 := Lib.hid r0
  have Hol := Lib.hid hol
  have m0 : Mine A w W := ⟨by omega, hb⟩
  have M0 := Lib.hid m0
  clear hs hW hb r0 hol hout m0
  go_enter Try.func22, Try.ntmps22
  go_wp2_with fail
  rw [HW.out]
  refine HS'.out.mono ?_
  rintro e wj ⟨rfl, hbj⟩
  have rj := R0.out.below' hbj (Nat.le_refl _)
  have R3 := Lib.hid rj
  have RR := Lib.hid (rj.setRow (enc8 out))
  have HBz := Lib.hid (below_setRow (M0.out.call hbj).bel (Nat.le_refl A) (enc8 out).toArray)
  clear hbj rj HS' R0 M0
  go_wp2_with (refine R3.out.store (m := enc8 out) rfl 24 (.tmp 2) (.tmp 7) rfl rfl rfl (by rw [enc8_len, Hol.out]; kernel_rfl) (by rw [enc8_len, enc8_len, Hol.out, List.length_replicate]) (enc8_all _) ?_)
  refine bodyPost_ret (v := .agg (enc8 out).toArray) (RR.out.result Try.results22 _ _ _ rfl Try.underlying24 (by rw [enc8_len, Hol.out]; kernel_rfl)) rfl ?_
  exact ⟨rfl, by rw [hA]; exact HBz.out⟩

set_option maxHeartbeats 2000000 in
set_option maxRecDepth 100000 in
theorem root_one (v : Value) (x : List UInt8) (w : World) (hv : HS w v [x]) :
    Calls Try.prog 22 #[v] w fun e w' => e = .returned (.agg (enc8 x).toArray) ∧ Below w.heap.size w w' := by
  obtain ⟨W, A, hW, hA, hsz, r0, hb⟩ := one_new w
  have hv' := hv.below (by rw [hA]; exact hb)
  obtain ⟨C, c, rfl, hc, -⟩ := hv.form
  obtain ⟨hx, -, g, o, rfl, hra⟩ := hv'.at_ 0 (by simp) x rfl
  rw [show o + 0 * 32 = o by omega] at hra
  have hi := info32 x hx
  have hol : (enc8 x).length = 32 := by rw [enc8_len, hx]
  have h1 := enc8_all x
  obtain ⟨ax, hax⟩ : ∃ ax, enc8 x = ax := ⟨_, rfl⟩
  rw [hax] at hra hi hol h1 ⊢
  have RA := Lib.hid hra
  have HI := Lib.hid hi
  have HL := Lib.hid hol
  have H1 := Lib.hid h1
  have HW := Lib.hid hW
  have R0 := Lib.hid r0
  have RR := Lib.hid (r0.setRow ax)
  have HBz := Lib.hid (below_setRow hb (Nat.le_refl A) ax.toArray)
  rw [show ([x] : List (List UInt8)).length = 1 from rfl]
  clear hv hv' hra hi hol h1 hW hb r0 hax hx hc
  go_enter Try.func22, Try.ntmps22
  go_wp2_with (first | (refine wpList_load_mid rfl 24 (.tmp 12) rfl g o rfl ax _ (by rw [HW.out]; exact RA.out) Try.underlying24 rfl HI.out ?_) | (rw [HW.out]; refine R0.out.store (m := ax) rfl 24 (.tmp 2) (.tmp 13) rfl rfl rfl HI.out (by rw [HL.out]; rfl) H1.out ?_))
  refine bodyPost_ret (v := .agg ax.toArray) (RR.out.result Try.results22 _ _ _ rfl Try.underlying24 HI.out) rfl ?_
  exact ⟨rfl, by rw [hA]; exact HBz.out⟩
/-- **merkle.Root** -/
theorem root_any : ∀ (N : Nat) (v : Value) (ls : List (List UInt8)) (w : World), ls.length < N → HS w v ls →
    Calls Try.prog 22 #[v] w fun e w' => e = .returned (.agg (enc8 (rootL ls)).toArray) ∧ Below w.heap.size w w'
  | 0, _, _, _, h, _ => absurd h (Nat.not_lt_zero _)
  | N + 1, v, ls, w, h, hv => by
    by_cases h2 : 2 ≤ ls.length
    · exact root_two v ls w hv h2 fun v' ls' w' hlt hv' => root_any N v' ls' w' (by omega) hv'
    · match ls with
      | [] =>
        rw [rootL_nil]
        obtain ⟨C, c, rfl, hc, h3⟩ := hv.form
        exact root_nil C c w
      | [x] => rw [rootL_one]; exact root_one v x w hv
      | _ :: _ :: _ => simp at h2

set_option maxHeartbeats 2000000 in
set_option maxRecDepth 100000 in
theorem qroot_two (v : Value) (ls : List (List UInt8)) (w : World) (hv : HS w v ls) (h2 : 2 ≤ ls.length)
    (IH : ∀ v' ls' w', ls'.length < ls.length → HS w' v' ls' → Calls Try.prog 23 #[v'] w' fun e w'' => e = .returned (.agg (enc8 (rootL ls')).toArray) ∧ Below w'.heap.size w' w'') :
    Calls Try.prog 23 #[v] w fun e w' => e = .returned (.agg (enc8 (rootL ls)).toArray) ∧ Below w.heap.size w w' := by
  obtain ⟨C, c, rfl, hc, -⟩ := hv.form
  obtain ⟨W, A, hW, hA, hsz, r0, hb⟩ := one_new w
  have hth := r0.there 32 rfl
  have hk := hlf_range ls.length h2
  have hh := fun w => split_any ls.length (by omega) w
  obtain ⟨k, hke⟩ : ∃ k, hlf ls.length = k := ⟨_, rfl⟩
  rw [rootL_two ls h2]
  rw [hke] at hk ⊢
  simp only [hke] at hh
  obtain ⟨n, hn⟩ : ∃ n, ls.length = n := ⟨_, rfl⟩
  have ka := fun w => sums_runh C n c k (by omega) (k : Int) rfl w
  have kb := fun w => sums_run1 C n c k (by omega) (k : Int) rfl (n - k) (c - k) rfl rfl w
  have qa : ∀ w', Below w.heap.size w w' → Calls Try.prog 23 #[.slice C k c] w' fun e w'' => e = .returned (.agg (enc8 (rootL (ls.take k))).toArray) ∧ Below w'.heap.size w' w'' := fun w' hb' =>
    IH _ _ _ (by rw [List.length_take]; omega) ((hv.below hb').take k (by omega))
  have qb : ∀ w', Below w.heap.size w w' → Calls Try.prog 23 #[.slice (cutS C c k) (n - k) (c - k)] w' fun e w'' => e = .returned (.agg (enc8 (rootL (ls.drop k))).toArray) ∧ Below w'.heap.size w' w'' := fun w' hb' =>
    IH _ _ _ (by rw [List.length_drop]; omega) ((hv.below hb').drop k (n - k) (c - k) (by omega) (by omega) rfl)
  have la := rootL_length (ls.take k) (fun x hx => hv.all x (List.mem_of_mem_take hx))
  have lb := rootL_length (ls.drop k) (fun x hx => hv.all x (List.mem_of_mem_drop hx))
  obtain ⟨ra, hra⟩ : ∃ ra, rootL (ls.take k) = ra := ⟨_, rfl⟩
  obtain ⟨rb, hrb⟩ : ∃ rb, rootL (ls.drop k) = rb := ⟨_, rfl⟩
  rw [hra] at la
  rw [hrb] at lb
  simp only [hra] at qa
  simp only [hrb] at qb
  rw [hra, hrb]
  have hnode := fun w => qnode_any ra rb la lb w
  have hnl := nodeL_length ra rb
  obtain ⟨out, hout⟩ : ∃ out, nodeL ra rb = out := ⟨_, rfl⟩
  rw [hout] at hnl ⊢
  simp only [hout] at hnode
  have hi := info32 out hnl
  have hh1 := enc8_one out
  have hol : (enc8 out).length = 32 := by rw [enc8_len, hnl]
  obtain ⟨ao, hao⟩ : ∃ ao, enc8 out = ao := ⟨_, rfl⟩
  rw [hao] at hi hh1 hol ⊢
  simp only [hao] at hnode
  obtain ⟨aa, haa⟩ : ∃ aa, enc8 ra = aa := ⟨_, rfl⟩
  obtain ⟨ab, hab⟩ : ∃ ab, enc8 rb = ab := ⟨_, rfl⟩
  simp only [haa, hab] at hnode
  simp only [haa] at qa
  simp only [hab] at qb
  rw [hA] at qa qb
  have hn0 : (n : Int) ≠ 0 := by omega
  have hn1 : (n : Int) ≠ 1 := by omega
  have hn0' : n ≠ 0 := by omega
  have hn1' : n ≠ 1 := by omega
  rw [hn] at hh hv ⊢
  have QA := Lib.hid qa
  have QB := Lib.hid qb
  have HN := Lib.hid hnode
  have HH := Lib.hid hh
  have HW := Lib.hid hW
  have HB := Lib.hid hb
  have HTH := Lib.hid hth
  have HI := Lib.hid hi
  have HO := Lib.hid hh1
  have HL := Lib.hid hol
  have m0 : Mine A w W := ⟨by omega, hb⟩
  have M0 := Lib.hid m0
  clear IH hv r0 hW hb hth hi hh1 hol hnode qa qb hh h2 hk hc la lb hra hrb hnl hout hao haa hab hke hn m0
  go_enter Try.func23, Try.ntmps23
  go_wp2_with fail
  rw [HW.out]
  refine (HH.out _).mono ?_
  rintro e w1 ⟨rfl, rfl⟩
  clear HW HB
  go_wp2_with fail
  refine wp_region_noPanic ?_
  refine wp_region_held_drew (S := (fun w' => Mine A w w' ∧ w'.there A 0 32)) (by kernel_rfl) ?_ (fun hHeld => ?_)
  · exact ⟨⟨M0.out.le, M0.out.bel.drew⟩, (World.there_drew _ _ _ _).2 HTH.out⟩
  refine wpAnyH_take (i := 0) (oi := { dst := some 17, op := Op.move (Operand.tmp 0), type := 29, pos := "ref.go:38", after := #[], guard := none }) (v := ?v0) rfl (by kernel_rfl) (by kernel_rfl) (by kernel_rfl) (fun _ _ _ h => h) (Or.inl ⟨by rfl, ?y0⟩) (by assumption) ?r0
  case y0 => intro w hSw; (try dsimp only at hSw); go_simp; try with_reducible rfl
  try simp only [Act.put, List.setIfInBounds_toArray, List.set_cons_zero, List.set_cons_succ]
  refine wpAnyH_take (i := 1) (oi := { dst := some 18, op := Op.move (Operand.tmp 3), type := 3, pos := "ref.go:38", after := #[], guard := none }) (v := ?v1) rfl (by kernel_rfl) (by kernel_rfl) (by kernel_rfl) (fun _ _ _ h => h) (Or.inl ⟨by rfl, ?y1⟩) (by assumption) ?r1
  case y1 => intro w hSw; (try dsimp only at hSw); go_simp; try with_reducible rfl
  try simp only [Act.put, List.setIfInBounds_toArray, List.set_cons_zero, List.set_cons_succ]
  refine wpAnyH_take (i := 2) (oi := { dst := some 19, op := Op.slice 29 (Operand.tmp 17) none (some (Operand.tmp 18)) none, type := 29, pos := "ref.go:38", after := #[{ on := 0, ground := Ground.data }, { on := 1, ground := Ground.data }], guard := none }) (v := ?v2) rfl (by kernel_rfl) (by kernel_rfl) (by kernel_rfl) (fun _ _ _ h => h) (Or.inl ⟨by rfl, ?y2⟩) (by assumption) ?r2
  case y2 => intro w hSw; (try dsimp only at hSw); go_simp; try with_reducible rfl
  try simp only [Act.put, List.setIfInBounds_toArray, List.set_cons_zero, List.set_cons_succ]
  refine wpAnyH_take (i := 4) (oi := { dst := some 21, op := Op.move (Operand.tmp 0), type := 29, pos := "ref.go:38", after := #[], guard := none }) (v := ?v4) rfl (by kernel_rfl) (by kernel_rfl) (by kernel_rfl) (fun _ _ _ h => h) (Or.inl ⟨by rfl, ?y4⟩) (by assumption) ?r4
  case y4 => intro w hSw; (try dsimp only at hSw); go_simp; try with_reducible rfl
  try simp only [Act.put, List.setIfInBounds_toArray, List.set_cons_zero, List.set_cons_succ]
  refine wpAnyH_take (i := 5) (oi := { dst := some 22, op := Op.move (Operand.tmp 3), type := 3, pos := "ref.go:38", after := #[], guard := none }) (v := ?v5) rfl (by kernel_rfl) (by kernel_rfl) (by kernel_rfl) (fun _ _ _ h => h) (Or.inl ⟨by rfl, ?y5⟩) (by assumption) ?r5
  case y5 => intro w hSw; (try dsimp only at hSw); go_simp; try with_reducible rfl
  try simp only [Act.put, List.setIfInBounds_toArray, List.set_cons_zero, List.set_cons_succ]
  refine wpAnyH_take (i := 6) (oi := { dst := some 23, op := Op.slice 29 (Operand.tmp 21) (some (Operand.tmp 22)) none none, type := 29, pos := "ref.go:38", after := #[{ on := 4, ground := Ground.data }, { on := 5, ground := Ground.data }], guard := none }) (v := ?v6) rfl (by kernel_rfl) (by kernel_rfl) (by kernel_rfl) (fun _ _ _ h => h) (Or.inl ⟨by rfl, ?y6⟩) (by assumption) ?r6
  case y6 => intro w hSw; (try dsimp only at hSw); go_simp; try with_reducible rfl
  try simp only [Act.put, List.setIfInBounds_toArray, List.set_cons_zero, List.set_cons_succ]
  refine wpAnyH_ready (rs := [3]) (by kernel_rfl) (by simp) (AllReadyH.cons (o := { dst := some 20, op := Op.call { callee := Callee.value (Operand.func 23), args := #[Operand.tmp 19], argTypes := #[29] }, type := 24, pos := "ref.go:38", after := #[{ on := 2, ground := Ground.data }], guard := none }) rfl (fun K hK => ?_) AllReadyH.nil)
  go_simp
  refine (QA.out _ hHeld.1.bel).mono ?_; rintro e w' ⟨rfl, hb⟩
  go_wp2_with fail
  refine hK.out _ _ ?_ (fun hHeld => ?_)
  · (try dsimp only); (go_split_ands; (repeat' apply And.intro) <;> first | assumption | exact Mine.call (by assumption) (by assumption) | exact Mine.alloc (by assumption) _ | exact Mine.setCells (by assumption) _ _ _ (by omega) | exact Mine.callN (by assumption) (by assumption) (by omega) | exact Row.belowN (by assumption) (by assumption) (by omega) | exact there_belowN (by assumption) (by assumption) (by omega) | exact rangeAt_below (by assumption) (by assumption) | exact World.rangeAt_alloc (by assumption) _ | exact there_below (by assumption) (by assumption) | exact World.there_alloc (by assumption) _ | exact World.there_setCells (by assumption) _ _ _ | exact Row.belowS (by assumption) (by assumption) | exact Row.alloc (by assumption) _ | exact Row.setCells (by assumption) _ _ (by omega) | exact HS.below (by assumption) (by assumption) | exact HS.alloc (by assumption) _)
  clear hK K
  try simp only [Act.put, List.setIfInBounds_toArray, List.set_cons_zero, List.set_cons_succ]
  refine wpAnyH_ready (rs := [7]) (by kernel_rfl) (by simp) (AllReadyH.cons (o := { dst := some 24, op := Op.call { callee := Callee.value (Operand.func 23), args := #[Operand.tmp 23], argTypes := #[29] }, type := 24, pos := "ref.go:38", after := #[{ on := 6, ground := Ground.data }, { on := 3, ground := Ground.chain }], guard := none }) rfl (fun K hK => ?_) AllReadyH.nil)
  go_simp
  refine (QB.out _ hHeld.1.bel).mono ?_; rintro e w' ⟨rfl, hb⟩
  go_wp2_with fail
  refine hK.out _ _ ?_ (fun hHeld => ?_)
  · (try dsimp only); (go_split_ands; (repeat' apply And.intro) <;> first | assumption | exact Mine.call (by assumption) (by assumption) | exact Mine.alloc (by assumption) _ | exact Mine.setCells (by assumption) _ _ _ (by omega) | exact Mine.callN (by assumption) (by assumption) (by omega) | exact Row.belowN (by assumption) (by assumption) (by omega) | exact there_belowN (by assumption) (by assumption) (by omega) | exact rangeAt_below (by assumption) (by assumption) | exact World.rangeAt_alloc (by assumption) _ | exact there_below (by assumption) (by assumption) | exact World.there_alloc (by assumption) _ | exact World.there_setCells (by assumption) _ _ _ | exact Row.belowS (by assumption) (by assumption) | exact Row.alloc (by assumption) _ | exact Row.setCells (by assumption) _ _ (by omega) | exact HS.below (by assumption) (by assumption) | exact HS.alloc (by assumption) _)
  clear hK K
  try simp only [Act.put, List.setIfInBounds_toArray, List.set_cons_zero, List.set_cons_succ]
  refine wpAnyH_ready (rs := [8]) (by kernel_rfl) (by simp) (AllReadyH.cons (o := { dst := some 25, op := Op.call { callee := Callee.value (Operand.func 25), args := #[Operand.tmp 20, Operand.tmp 24], argTypes := #[24, 24] }, type := 24, pos := "ref.go:38", after := #[{ on := 3, ground := Ground.data }, { on := 7, ground := Ground.data }, { on := 7, ground := Ground.chain }], guard := none }) rfl (fun K hK => ?_) AllReadyH.nil)
  go_simp
  refine (HN.out _).mono ?_; rintro e w2 ⟨rfl, hb⟩; have hi := HI.out; have hh1 := HO.out; have hol := HL.out
  go_wp2_with fail
  refine hK.out _ _ ?_ (fun hHeld => ?_)
  · (try dsimp only); (go_split_ands; (repeat' apply And.intro) <;> first | assumption | exact Mine.call (by assumption) (by assumption) | exact Mine.alloc (by assumption) _ | exact Mine.setCells (by assumption) _ _ _ (by omega) | exact Mine.callN (by assumption) (by assumption) (by omega) | exact Row.belowN (by assumption) (by assumption) (by omega) | exact there_belowN (by assumption) (by assumption) (by omega) | exact rangeAt_below (by assumption) (by assumption) | exact World.rangeAt_alloc (by assumption) _ | exact there_below (by assumption) (by assumption) | exact World.there_alloc (by assumption) _ | exact World.there_setCells (by assumption) _ _ _ | exact Row.belowS (by assumption) (by assumption) | exact Row.alloc (by assumption) _ | exact Row.setCells (by assumption) _ _ (by omega) | exact HS.below (by assumption) (by assumption) | exact HS.alloc (by assumption) _)
  clear hK K
  try simp only [Act.put, List.setIfInBounds_toArray, List.set_cons_zero, List.set_cons_succ]
  have hPre := hHeld
  refine wpAnyH_ready (rs := [9]) (by kernel_rfl) (by simp) (AllReadyH.cons (o := { dst := none, op := Op.store 24 (Operand.tmp 2) (Operand.tmp 25), type := 0, pos := "ref.go:38", after := #[{ on := 8, ground := Ground.data }, { on := 8, ground := Ground.chain }, { on := 0, ground := Ground.phase }, { on := 1, ground := Ground.phase }, { on := 2, ground := Ground.phase }, { on := 3, ground := Ground.phase }, { on := 4, ground := Ground.phase }, { on := 5, ground := Ground.phase }, { on := 6, ground := Ground.phase }, { on := 7, ground := Ground.phase }, { on := 8, ground := Ground.phase }], guard := none }) rfl (fun K hK => ?_) AllReadyH.nil)
  rw [if_pos (by rfl)]
  refine wp_store_mid _ _ _ rfl _ _ (List.toArray _) rfl rfl (by go_split_ands; first | assumption | (simp only [List.size_toArray, *] <;> assumption)) (by first | assumption | (simp only [List.size_toArray] <;> assumption) | (simp only [List.size_toArray, *]; done)) (all_oneCell_toArray (by assumption)) ?_
  simp only [Act.put, List.setIfInBounds_toArray, List.set_cons_zero, List.set_cons_succ, List.toList_toArray]
  refine hK.out _ _ ?_ (fun hHeld => ?_)
  · (try dsimp only); (go_split_ands; (repeat' apply And.intro) <;> first | assumption | exact Mine.call (by assumption) (by assumption) | exact Mine.alloc (by assumption) _ | exact Mine.setCells (by assumption) _ _ _ (by omega) | exact Mine.callN (by assumption) (by assumption) (by omega) | exact Row.belowN (by assumption) (by assumption) (by omega) | exact there_belowN (by assumption) (by assumption) (by omega) | exact rangeAt_below (by assumption) (by assumption) | exact World.rangeAt_alloc (by assumption) _ | exact there_below (by assumption) (by assumption) | exact World.there_alloc (by assumption) _ | exact World.there_setCells (by assumption) _ _ _ | exact Row.belowS (by assumption) (by assumption) | exact Row.alloc (by assumption) _ | exact Row.setCells (by assumption) _ _ (by omega) | exact HS.below (by assumption) (by assumption) | exact HS.alloc (by assumption) _)
  clear hK K
  refine wpAnyH_done (by kernel_rfl) ?_ _
  refine NoPanic.normal ?_
  have hr := Lib.hid (World.rangeAt_setCells_same w2 A 0 ao (by rw [HL.out]; exact hPre.2))
  have hfin := Lib.hid hHeld.1.bel
  clear hHeld hPre hi hh1 hol hb
  go_wp2
  refine bodyPost_ret (v := .agg ao.toArray) (range_result hr.out Try.results23 _ _ _ rfl Try.underlying24 HI.out) rfl ?_
  exact ⟨rfl, by rw [hA]; exact hfin.out⟩

set_option maxHeartbeats 2000000 in
set_option maxRecDepth 100000 in
theorem qroot_nil (C : Option Addr) (c : Nat) (w : World) :
    Calls Try.prog 23 #[.slice C 0 c] w fun e w' => e = .returned (.agg (enc8 (sumL [])).toArray) ∧ Below w.heap.size w w' := by
  obtain ⟨W, A, hW, hA, hsz, r0, hb⟩ := one_new w
  have hs := rsum_any (.slice none 0 0) [] W (SB_nil W) (by simp)
  have hol := sumL_length []
  obtain ⟨out, hout⟩ : ∃ out, sumL [] = out := ⟨_, rfl⟩
  rw [hout] at hs hol ⊢
  have HS' := Lib.hid hs
  have HW := Lib.hid hW
  have HB := Lib.hid hb
  have R0 := Lib.hid r0
  have Hol := Lib.hid hol
  have m0 : Mine A w W := ⟨by omega, hb⟩
  have M0 := Lib.hid m0
  clear hs hW hb r0 hol hout m0
  go_enter Try.func23, Try.ntmps23
  go_wp2_with fail
  rw [HW.out]
  refine HS'.out.mono ?_
  rintro e wj ⟨rfl, hbj⟩
  have rj := R0.out.below' hbj (Nat.le_refl _)
  have R3 := Lib.hid rj
  have RR := Lib.hid (rj.setRow (enc8 out))
  have HBz := Lib.hid (below_setRow (M0.out.call hbj).bel (Nat.le_refl A) (enc8 out).toArray)
  clear hbj rj HS' R0 M0
  go_wp2_with (refine R3.out.store (m := enc8 out) rfl 24 (.tmp 2) (.tmp 8) rfl rfl rfl (by rw [enc8_len, Hol.out]; kernel_rfl) (by rw [enc8_len, enc8_len, Hol.out, List.length_replicate]) (enc8_all _) ?_)
  refine bodyPost_ret (v := .agg (enc8 out).toArray) (RR.out.result Try.results23 _ _ _ rfl Try.underlying24 (by rw [enc8_len, Hol.out]; kernel_rfl)) rfl ?_
  exact ⟨rfl, by rw [hA]; exact HBz.out⟩

set_option maxHeartbeats 2000000 in
set_option maxRecDepth 100000 in
theorem qroot_one (v : Value) (x : List UInt8) (w : World) (hv : HS w v [x]) :
    Calls Try.prog 23 #[v] w fun e w' => e = .returned (.agg (enc8 x).toArray) ∧ Below w.heap.size w w' := by
  obtain ⟨W, A, hW, hA, hsz, r0, hb⟩ := one_new w
  have hv' := hv.below (by rw [hA]; exact hb)
  obtain ⟨C, c, rfl, hc, -⟩ := hv.form
  obtain ⟨hx, -, g, o, rfl, hra⟩ := hv'.at_ 0 (by simp) x rfl
  rw [show o + 0 * 32 = o by omega] at hra
  have hi := info32 x hx
  have hol : (enc8 x).length = 32 := by rw [enc8_len, hx]
  have h1 := enc8_all x
  obtain ⟨ax, hax⟩ : ∃ ax, enc8 x = ax := ⟨_, rfl⟩
  rw [hax] at hra hi hol h1 ⊢
  have RA := Lib.hid hra
  have HI := Lib.hid hi
  have HL := Lib.hid hol
  have H1 := Lib.hid h1
  have HW := Lib.hid hW
  have R0 := Lib.hid r0
  have RR := Lib.hid (r0.setRow ax)
  have HBz := Lib.hid (below_setRow hb (Nat.le_refl A) ax.toArray)
  rw [show ([x] : List (List UInt8)).length = 1 from rfl]
  clear hv hv' hra hi hol h1 hW hb r0 hax hx hc
  go_enter Try.func23, Try.ntmps23
  go_wp2_with (first | (refine wpList_load_mid rfl 24 (.tmp 12) rfl g o rfl ax _ (by rw [HW.out]; exact RA.out) Try.underlying24 rfl HI.out ?_) | (rw [HW.out]; refine R0.out.store (m := ax) rfl 24 (.tmp 2) (.tmp 13) rfl rfl rfl HI.out (by rw [HL.out]; rfl) H1.out ?_))
  refine bodyPost_ret (v := .agg ax.toArray) (RR.out.result Try.results23 _ _ _ rfl Try.underlying24 HI.out) rfl ?_
  exact ⟨rfl, by rw [hA]; exact HBz.out⟩
/-- **the reference's Root** -/
theorem qroot_any : ∀ (N : Nat) (v : Value) (ls : List (List UInt8)) (w : World), ls.length < N → HS w v ls →
    Calls Try.prog 23 #[v] w fun e w' => e = .returned (.agg (enc8 (rootL ls)).toArray) ∧ Below w.heap.size w w'
  | 0, _, _, _, h, _ => absurd h (Nat.not_lt_zero _)
  | N + 1, v, ls, w, h, hv => by
    by_cases h2 : 2 ≤ ls.length
    · exact qroot_two v ls w hv h2 fun v' ls' w' hlt hv' => qroot_any N v' ls' w' (by omega) hv'
    · match ls with
      | [] =>
        rw [rootL_nil]
        obtain ⟨C, c, rfl, hc, h3⟩ := hv.form
        exact qroot_nil C c w
      | [x] => rw [rootL_one]; exact qroot_one v x w hv
      | _ :: _ :: _ => simp at h2
end Go.Proofs.Ytkipnhhdlohnfaa

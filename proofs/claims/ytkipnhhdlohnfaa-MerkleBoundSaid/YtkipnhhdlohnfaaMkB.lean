/- The split of a number of leaves; Node and Leaf, of both. -/
import Derived.RangeFuncNested
import Derived.RangeFuncBound
import Derived.RangeFuncCalls
import Derived.RangeFuncLeaves
import Derived.Shelf.Abstract
import Derived.Shelf.RegionOpen
import Derived.WalkKit
import Derived.OwnWalkIn
import Derived.TacticsInMore
import Derived.LoopNIn
import Derived.LoopIn
import Derived.Outline
import Derived.Lib.Hide
import Derived.Lib.SliceRun
import Derived.IntWalk
import Derived.WalkLawsBesides
import Derived.WalkSpells
import Derived.Laws.BitsAllLaws
import Derived.Lib.ConvBytes
import Derived.Maps.AppendAt
import Derived.Lib.AppendStr
import Derived.Lib.SlBytesConst
import Derived.Laws.AppendOwnNone
import Derived.Laws.OwnMore
import Derived.Laws.BytesArg
import Derived.Deep.RegionHeld3
import Derived.BigQuiet
import Derived.Deep.RegionLaw
import Derived.Deep.QuietTactic
import Derived.Lib.OthersKept
import Derived.Test.YtkipnhhdlohnfaaProg
import Derived.Deep.DeepFit
import Derived.Test.YtkipnhhdlohnfaaMkA
set_option linter.unusedVariables false
set_option linter.unusedSimpArgs false
namespace Go.Proofs.Ytkipnhhdlohnfaa
open Go Go.RowKit Go.Shelf

/-- the greatest power of 2 below n -/
def hgo : Nat → Nat → Nat → Nat
  | 0, _, k => k
  | f + 1, n, k => if 2 * k < n then hgo f n (2 * k) else k
def hlf (n : Nat) : Nat := hgo 64 n 1
theorem hgo_range : ∀ (f n k : Nat), 1 ≤ k → k < n → 1 ≤ hgo f n k ∧ hgo f n k < n
  | 0, n, k, h1, h2 => ⟨h1, h2⟩
  | f + 1, n, k, h1, h2 => by
    unfold hgo
    split
    · exact hgo_range f n (2 * k) (by omega) (by omega)
    · exact ⟨h1, h2⟩
theorem hlf_range (n : Nat) (h : 2 ≤ n) : 1 ≤ hlf n ∧ hlf n < n := hgo_range 64 n 1 (by omega) (by omega)
theorem hgo_stop (f n k : Nat) (h : ¬ 2 * k < n) : hgo f n k = k := by
  cases f with
  | zero => rfl
  | succ f => unfold hgo; rw [if_neg h]

set_option maxRecDepth 100000 in
theorem half_any (n : Nat) (hn : n ≤ 9223372036854775807) (w : World) : Calls Try.prog 45 #[.int .i64 (n : Int)] w fun e w' => e = .returned (.int .i64 (hlf n : Int)) ∧ w' = w := by
  obtain ⟨h, hh⟩ : ∃ h, hlf n = h := ⟨_, rfl⟩
  have H0 : Hid (hgo 64 n 1 = h ∧ n ≤ 1 * 2 ^ 64) := ⟨hh, by omega⟩
  rw [hh]
  clear hh
  go_enter Try.func45, Try.ntmps45
  go_wp2
  go_loop [3] (fun x => ∃ k f : Nat, x = .int .i64 (k : Int) ∧ 1 ≤ k ∧ (k ≤ n ∨ k = 1) ∧ hgo f n k = h ∧ n ≤ k * 2 ^ f) (fun x => n - (intOf x).toNat)
  case atStart => exact ⟨1, 64, rfl, by omega, .inr rfl, H0.out.1, H0.out.2⟩
  case round =>
    obtain ⟨k, f, rfl, hk1, hk2, hg, hf⟩ := hrel
    clear H0
    have m1 : IntKind.i64.wrap ((n : Int) - (k : Int)) = (n : Int) - (k : Int) := IntWalk.i64_in _ (by omega)
    by_cases hc : 2 * k < n
    · have d1 : decide ((k : Int) < (n : Int) - (k : Int)) = true := by simp; omega
      have m2 : IntKind.i64.wrap ((k : Int) + (k : Int)) = ((2 * k : Nat) : Int) := by rw [IntWalk.i64_in _ (by omega)]; omega
      have hx : ∃ g, hgo g n (2 * k) = h ∧ n ≤ (2 * k) * 2 ^ g := by
        cases f with
        | zero => omega
        | succ g =>
          unfold hgo at hg
          rw [if_pos hc] at hg
          refine ⟨g, hg, ?_⟩
          rw [Nat.pow_succ] at hf
          rw [show 2 * k * 2 ^ g = k * (2 ^ g * 2) by rw [Nat.mul_comm 2 k, Nat.mul_assoc, Nat.mul_comm 2 (2 ^ g)]]
          exact hf
      obtain ⟨g, hg1, hg2⟩ := hx
      have Hg := Lib.hid hg1
      have Hf := Lib.hid hg2
      obtain ⟨k2, hk3⟩ : ∃ k2, 2 * k = k2 := ⟨_, rfl⟩
      rw [hk3] at m2 hc Hg Hf
      clear hg hf hg1 hg2
      go_wp2
      go_round
      case rel => exact ⟨k2, g, rfl, by omega, .inl (by omega), Hg.out, Hf.out⟩
      case measure => simp [intOf]; omega
    · have d1 : decide ((k : Int) < (n : Int) - (k : Int)) = false := by simp; omega
      rw [hgo_stop f n k hc] at hg
      subst hg
      clear hf
      go_wp2
      go_ret
      exact ⟨rfl, rfl⟩
set_option maxRecDepth 100000 in
theorem split_any (n : Nat) (hn : n ≤ 9223372036854775807) (w : World) : Calls Try.prog 46 #[.int .i64 (n : Int)] w fun e w' => e = .returned (.int .i64 (hlf n : Int)) ∧ w' = w := by
  obtain ⟨h, hh⟩ : ∃ h, hlf n = h := ⟨_, rfl⟩
  have H0 : Hid (hgo 64 n 1 = h ∧ n ≤ 1 * 2 ^ 64) := ⟨hh, by omega⟩
  rw [hh]
  clear hh
  go_enter Try.func46, Try.ntmps46
  go_wp2
  go_loop [3] (fun x => ∃ k f : Nat, x = .int .i64 (k : Int) ∧ 1 ≤ k ∧ (k ≤ n ∨ k = 1) ∧ hgo f n k = h ∧ n ≤ k * 2 ^ f) (fun x => n - (intOf x).toNat)
  case atStart => exact ⟨1, 64, rfl, by omega, .inr rfl, H0.out.1, H0.out.2⟩
  case round =>
    obtain ⟨k, f, rfl, hk1, hk2, hg, hf⟩ := hrel
    clear H0
    have m1 : IntKind.i64.wrap ((n : Int) - (k : Int)) = (n : Int) - (k : Int) := IntWalk.i64_in _ (by omega)
    by_cases hc : 2 * k < n
    · have d1 : decide ((k : Int) < (n : Int) - (k : Int)) = true := by simp; omega
      have m2 : IntKind.i64.wrap ((k : Int) * 2) = ((2 * k : Nat) : Int) := by rw [IntWalk.i64_in _ (by omega)]; omega
      have hx : ∃ g, hgo g n (2 * k) = h ∧ n ≤ (2 * k) * 2 ^ g := by
        cases f with
        | zero => omega
        | succ g =>
          unfold hgo at hg
          rw [if_pos hc] at hg
          refine ⟨g, hg, ?_⟩
          rw [Nat.pow_succ] at hf
          rw [show 2 * k * 2 ^ g = k * (2 ^ g * 2) by rw [Nat.mul_comm 2 k, Nat.mul_assoc, Nat.mul_comm 2 (2 ^ g)]]
          exact hf
      obtain ⟨g, hg1, hg2⟩ := hx
      have Hg := Lib.hid hg1
      have Hf := Lib.hid hg2
      obtain ⟨k2, hk3⟩ : ∃ k2, 2 * k = k2 := ⟨_, rfl⟩
      rw [hk3] at m2 hc Hg Hf
      clear hg hf hg1 hg2
      go_wp2
      go_round
      case rel => exact ⟨k2, g, rfl, by omega, .inl (by omega), Hg.out, Hf.out⟩
      case measure => simp [intOf]; omega
    · have d1 : decide ((k : Int) < (n : Int) - (k : Int)) = false := by simp; omega
      rw [hgo_stop f n k hc] at hg
      subst hg
      clear hf
      go_wp2
      go_ret
      exact ⟨rfl, rfl⟩
/-- a node, a leaf -/
def nodeL (l r : List UInt8) : List UInt8 := sumL (1 :: (l ++ r))
def leafL (b : List UInt8) : List UInt8 := sumL (0 :: b)
theorem nodeL_length (l r : List UInt8) : (nodeL l r).length = 32 := sumL_length _
theorem leafL_length (b : List UInt8) : (leafL b).length = 32 := sumL_length _

/-- three new arrays -/
theorem three_new (w : World) (a b : List Value) : ∃ W A, ((w.alloc (.cells a.toArray 24)).alloc (.cells b.toArray 24)).alloc (.cells #[.int .u8 0, .int .u8 0, .int .u8 0, .int .u8 0, .int .u8 0, .int .u8 0, .int .u8 0, .int .u8 0, .int .u8 0, .int .u8 0, .int .u8 0, .int .u8 0, .int .u8 0, .int .u8 0, .int .u8 0, .int .u8 0, .int .u8 0, .int .u8 0, .int .u8 0, .int .u8 0, .int .u8 0, .int .u8 0, .int .u8 0, .int .u8 0, .int .u8 0, .int .u8 0, .int .u8 0, .int .u8 0, .int .u8 0, .int .u8 0, .int .u8 0, .int .u8 0] 24) = W ∧ w.heap.size = A ∧ W.heap.size = A + 3 ∧ Row W A 24 a ∧ Row W (A + 1) 24 b ∧ Row W (A + 1 + 1) 24 Z32 ∧ Below A w W := by
  have hs1 : (w.alloc (.cells a.toArray 24)).heap.size = w.heap.size + 1 := by show (w.heap.push _).size = _; simp
  have hs2 : ((w.alloc (.cells a.toArray 24)).alloc (.cells b.toArray 24)).heap.size = w.heap.size + 2 := by
    show ((w.alloc (.cells a.toArray 24)).heap.push _).size = _
    rw [Array.size_push, hs1]
  refine ⟨_, _, rfl, rfl, ?_, ?_, ?_, ?_, ?_⟩
  · show (((w.alloc (.cells a.toArray 24)).alloc (.cells b.toArray 24)).heap.push _).size = _
    rw [Array.size_push, hs2]
  · exact ((Row.new w a.toArray 24).alloc _).alloc _
  · rw [← hs1]; exact (Row.new _ b.toArray 24).alloc _
  · rw [show w.heap.size + 1 + 1 = w.heap.size + 2 by omega, ← hs2]; exact Row.new _ #[.int .u8 0, .int .u8 0, .int .u8 0, .int .u8 0, .int .u8 0, .int .u8 0, .int .u8 0, .int .u8 0, .int .u8 0, .int .u8 0, .int .u8 0, .int .u8 0, .int .u8 0, .int .u8 0, .int .u8 0, .int .u8 0, .int .u8 0, .int .u8 0, .int .u8 0, .int .u8 0, .int .u8 0, .int .u8 0, .int .u8 0, .int .u8 0, .int .u8 0, .int .u8 0, .int .u8 0, .int .u8 0, .int .u8 0, .int .u8 0, .int .u8 0, .int .u8 0] 24
  · exact (((Below.refl _ w).alloc (Nat.le_refl _) _).alloc (by omega) _).alloc (by omega) _

set_option maxHeartbeats 2000000 in
set_option maxRecDepth 100000 in
/-- **merkle.Node** -/
theorem node_any (l r : List UInt8) (hl : l.length = 32) (hr : r.length = 32) (w : World) :
    Calls Try.prog 24 #[.agg (enc8 l).toArray, .agg (enc8 r).toArray] w fun e w' => e = .returned (.agg (enc8 (nodeL l r)).toArray) ∧ Below w.heap.size w w' := by
  obtain ⟨W, A, hW, hA, hsz, r0, r1, r2, hb⟩ := three_new w (enc8 l) (enc8 r)
  have hth := r2.there 32 rfl
  have s1 : SB (W.alloc (.cells #[.int .u8 1] 5)) (.slice (some ⟨A + 3, 0, none⟩) 1 1) [1] := by
    have := (OB_lit W #[.int .u8 1] [1] (by decide) rfl).reads
    rwa [hsz] at this
  have bd : Below W.heap.size W (W.alloc (.cells #[.int .u8 1] 5)) := (Below.refl _ _).alloc (Nat.le_refl _) _
  have s2 : SB (W.alloc (.cells #[.int .u8 1] 5)) (.slice (some ⟨A, 0, none⟩) 32 32) l := (SB_row r0 hl).below bd
  have s3 : SB (W.alloc (.cells #[.int .u8 1] 5)) (.slice (some ⟨A + 1, 0, none⟩) 32 32) r := (SB_row r1 hr).below bd
  have hss0 := SS_new (W.alloc (.cells #[.int .u8 1] 5)) [.slice (some ⟨A + 3, 0, none⟩) 1 1, .slice (some ⟨A, 0, none⟩) 32 32, .slice (some ⟨A + 1, 0, none⟩) 32 32] [[1], l, r] 22 rfl (by simp) (by
    intro i v x hv hx
    match i with
    | 0 => simp at hv hx; subst hv hx; exact s1
    | 1 => simp at hv hx; subst hv hx; exact s2
    | 2 => simp at hv hx; subst hv hx; exact s3
    | i + 3 => simp at hv)
  rw [show (W.alloc (.cells #[.int .u8 1] 5)).heap.size = A + 3 + 1 by show (W.heap.push _).size = _; simp; omega, show ([[1], l, r] : List (List UInt8)).length = 3 from rfl] at hss0
  have hss := SS_below hss0 (Below.refl _ _).drew
  have hj := join_any _ _ _ hss (by simp [hl, hr])
  rw [show ([[1], l, r] : List (List UInt8)).flatten = 1 :: (l ++ r) by simp] at hj
  have hnl := nodeL_length l r
  obtain ⟨out, hout⟩ : ∃ out, nodeL l r = out := ⟨_, rfl⟩
  rw [show sumL (1 :: (l ++ r)) = out from hout] at hj
  rw [hout] at hnl ⊢
  have hi := info32 out hnl
  have hh1 := enc8_one out
  have hol : (enc8 out).length = 32 := by rw [enc8_len, hnl]
  obtain ⟨al, hal⟩ : ∃ al, enc8 l = al := ⟨_, rfl⟩
  obtain ⟨ar, har⟩ : ∃ ar, enc8 r = ar := ⟨_, rfl⟩
  obtain ⟨ao, hao⟩ : ∃ ao, enc8 out = ao := ⟨_, rfl⟩
  rw [hal, har] at hW
  rw [hao] at hj hi hh1 hol
  rw [hal, har, hao]
  have HJ := Lib.hid hj
  have HW := Lib.hid hW
  have HB := Lib.hid hb
  have HTH := Lib.hid hth
  have HI := Lib.hid hi
  have HO := Lib.hid hh1
  have HL := Lib.hid hol
  clear hj hW hb hth hi hh1 hol hss0 hss s1 s2 s3 bd r0 r1 r2 hl hr hnl hout hal har hao
  go_enter Try.func24, Try.ntmps24
  go_wp2_with fail
  rw [HW.out]
  refine wp_region_noPanic ?_
  refine wp_region_held_drew (S := (fun w' => Mine A w w' ∧ w'.there (A + 1 + 1) 0 32)) (by kernel_rfl) ?_ (fun hHeld => ?_)
  · exact ⟨⟨by show A ≤ W.heap.size; omega, HB.out.drew⟩, (World.there_drew W _ _ _).2 HTH.out⟩
  refine wpAnyH_take (i := 1) (oi := { dst := some 6, op := Op.slice 24 (Operand.tmp 2) none none none, type := 22, pos := "merkle.go:18", after := #[], guard := none }) (v := ?v1) rfl (by kernel_rfl) (by kernel_rfl) (by kernel_rfl) (fun _ _ _ h => h) (Or.inl ⟨by rfl, ?y1⟩) (by assumption) ?r1
  case y1 => intro w hSw; (try dsimp only at hSw); go_simp; try with_reducible rfl
  try simp only [Act.put, List.setIfInBounds_toArray, List.set_cons_zero, List.set_cons_succ]
  refine wpAnyH_take (i := 2) (oi := { dst := some 7, op := Op.slice 24 (Operand.tmp 3) none none none, type := 22, pos := "merkle.go:18", after := #[], guard := none }) (v := ?v2) rfl (by kernel_rfl) (by kernel_rfl) (by kernel_rfl) (fun _ _ _ h => h) (Or.inl ⟨by rfl, ?y2⟩) (by assumption) ?r2
  case y2 => intro w hSw; (try dsimp only at hSw); go_simp; try with_reducible rfl
  try simp only [Act.put, List.setIfInBounds_toArray, List.set_cons_zero, List.set_cons_succ]
  refine wpAnyH_ready (rs := [0]) (by kernel_rfl) (by simp) (AllReadyH.cons (o := { dst := some 5, op := Op.buildSlice 22 1 #[(0, Operand.const (Value.int IntKind.u8 1))], type := 22, pos := "merkle.go:18", after := #[], guard := none }) rfl (fun K hK => ?_) AllReadyH.nil)
  go_simp
  refine hK.out _ _ ?_ (fun hHeld => ?_)
  · (try dsimp only); (go_split_ands; (repeat' apply And.intro) <;> first | assumption | exact Mine.call (by assumption) (by assumption) | exact Mine.alloc (by assumption) _ | exact Mine.setCells (by assumption) _ _ _ (by omega) | exact Mine.callN (by assumption) (by assumption) (by omega) | exact Row.belowN (by assumption) (by assumption) (by omega) | exact there_belowN (by assumption) (by assumption) (by omega) | exact rangeAt_below (by assumption) (by assumption) | exact World.rangeAt_alloc (by assumption) _ | exact there_below (by assumption) (by assumption) | exact World.there_alloc (by assumption) _ | exact World.there_setCells (by assumption) _ _ _ | exact Row.belowS (by assumption) (by assumption) | exact Row.alloc (by assumption) _ | exact Row.setCells (by assumption) _ _ (by omega) | exact HS.below (by assumption) (by assumption) | exact HS.alloc (by assumption) _)
  clear hK K
  try simp only [Act.put, List.setIfInBounds_toArray, List.set_cons_zero, List.set_cons_succ]
  refine wpAnyH_ready (rs := [3]) (by kernel_rfl) (by simp) (AllReadyH.cons (o := { dst := some 8, op := Op.buildSlice 59 3 #[(0, Operand.tmp 5), (1, Operand.tmp 6), (2, Operand.tmp 7)], type := 59, pos := "merkle.go:18", after := #[{ on := 0, ground := Ground.data }, { on := 1, ground := Ground.data }, { on := 2, ground := Ground.data }], guard := none }) rfl (fun K hK => ?_) AllReadyH.nil)
  go_simp
  refine hK.out _ _ ?_ (fun hHeld => ?_)
  · (try dsimp only); (go_split_ands; (repeat' apply And.intro) <;> first | assumption | exact Mine.call (by assumption) (by assumption) | exact Mine.alloc (by assumption) _ | exact Mine.setCells (by assumption) _ _ _ (by omega) | exact Mine.callN (by assumption) (by assumption) (by omega) | exact Row.belowN (by assumption) (by assumption) (by omega) | exact there_belowN (by assumption) (by assumption) (by omega) | exact rangeAt_below (by assumption) (by assumption) | exact World.rangeAt_alloc (by assumption) _ | exact there_below (by assumption) (by assumption) | exact World.there_alloc (by assumption) _ | exact World.there_setCells (by assumption) _ _ _ | exact Row.belowS (by assumption) (by assumption) | exact Row.alloc (by assumption) _ | exact Row.setCells (by assumption) _ _ (by omega) | exact HS.below (by assumption) (by assumption) | exact HS.alloc (by assumption) _)
  clear hK K
  try simp only [Act.put, List.setIfInBounds_toArray, List.set_cons_zero, List.set_cons_succ]
  refine wpAnyH_ready (rs := [4]) (by kernel_rfl) (by simp) (AllReadyH.cons (o := { dst := some 9, op := Op.call { callee := Callee.value (Operand.func 17), args := #[Operand.tmp 8], argTypes := #[59] }, type := 24, pos := "merkle.go:18", after := #[{ on := 3, ground := Ground.data }], guard := none }) rfl (fun K hK => ?_) AllReadyH.nil)
  go_simp
  refine HJ.out.mono ?_; rintro e w' ⟨rfl, hb⟩; have hi := HI.out; have hh1 := HO.out; have hol := HL.out
  go_wp2_with fail
  refine hK.out _ _ ?_ (fun hHeld => ?_)
  · (try dsimp only); (go_split_ands; (repeat' apply And.intro) <;> first | assumption | exact Mine.call (by assumption) (by assumption) | exact Mine.alloc (by assumption) _ | exact Mine.setCells (by assumption) _ _ _ (by omega) | exact Mine.callN (by assumption) (by assumption) (by omega) | exact Row.belowN (by assumption) (by assumption) (by omega) | exact there_belowN (by assumption) (by assumption) (by omega) | exact rangeAt_below (by assumption) (by assumption) | exact World.rangeAt_alloc (by assumption) _ | exact there_below (by assumption) (by assumption) | exact World.there_alloc (by assumption) _ | exact World.there_setCells (by assumption) _ _ _ | exact Row.belowS (by assumption) (by assumption) | exact Row.alloc (by assumption) _ | exact Row.setCells (by assumption) _ _ (by omega) | exact HS.below (by assumption) (by assumption) | exact HS.alloc (by assumption) _)
  clear hK K
  try simp only [Act.put, List.setIfInBounds_toArray, List.set_cons_zero, List.set_cons_succ]
  have hPre := hHeld
  refine wpAnyH_ready (rs := [5]) (by kernel_rfl) (by simp) (AllReadyH.cons (o := { dst := none, op := Op.store 24 (Operand.tmp 4) (Operand.tmp 9), type := 0, pos := "merkle.go:18", after := #[{ on := 4, ground := Ground.data }, { on := 4, ground := Ground.chain }, { on := 0, ground := Ground.phase }, { on := 1, ground := Ground.phase }, { on := 2, ground := Ground.phase }, { on := 3, ground := Ground.phase }, { on := 4, ground := Ground.phase }], guard := none }) rfl (fun K hK => ?_) AllReadyH.nil)
  rw [if_pos (by rfl)]
  refine wp_store_mid _ _ _ rfl _ _ (List.toArray _) rfl rfl (by go_split_ands; first | assumption | (simp only [List.size_toArray, *] <;> assumption)) (by first | assumption | (simp only [List.size_toArray] <;> assumption) | (simp only [List.size_toArray, *]; done)) (all_oneCell_toArray (by assumption)) ?_
  simp only [Act.put, List.setIfInBounds_toArray, List.set_cons_zero, List.set_cons_succ, List.toList_toArray]
  refine hK.out _ _ ?_ (fun hHeld => ?_)
  · (try dsimp only); (go_split_ands; (repeat' apply And.intro) <;> first | assumption | exact Mine.call (by assumption) (by assumption) | exact Mine.alloc (by assumption) _ | exact Mine.setCells (by assumption) _ _ _ (by omega) | exact Mine.callN (by assumption) (by assumption) (by omega) | exact Row.belowN (by assumption) (by assumption) (by omega) | exact there_belowN (by assumption) (by assumption) (by omega) | exact rangeAt_below (by assumption) (by assumption) | exact World.rangeAt_alloc (by assumption) _ | exact there_below (by assumption) (by assumption) | exact World.there_alloc (by assumption) _ | exact World.there_setCells (by assumption) _ _ _ | exact Row.belowS (by assumption) (by assumption) | exact Row.alloc (by assumption) _ | exact Row.setCells (by assumption) _ _ (by omega) | exact HS.below (by assumption) (by assumption) | exact HS.alloc (by assumption) _)
  clear hK K
  refine wpAnyH_done (by kernel_rfl) ?_ _
  refine NoPanic.normal ?_
  have hr := Lib.hid (World.rangeAt_setCells_same w' (A + 1 + 1) 0 ao (by rw [HL.out]; exact hPre.2))
  have hfin := Lib.hid hHeld.1.bel
  clear hHeld hPre hi hh1 hol
  go_wp2
  refine bodyPost_ret (v := .agg ao.toArray) (range_result hr.out Try.results24 _ _ _ rfl Try.underlying24 HI.out) rfl ?_
  exact ⟨rfl, by rw [hA]; exact hfin.out⟩

set_option maxHeartbeats 2000000 in
set_option maxRecDepth 100000 in
/-- **the reference's Node** -/
theorem qnode_any (l r : List UInt8) (hl : l.length = 32) (hr : r.length = 32) (w : World) :
    Calls Try.prog 25 #[.agg (enc8 l).toArray, .agg (enc8 r).toArray] w fun e w' => e = .returned (.agg (enc8 (nodeL l r)).toArray) ∧ Below w.heap.size w w' := by
  obtain ⟨W, A, hW, hA, hsz, r0, r1, r2, hb⟩ := three_new w (enc8 l) (enc8 r)
  have hth := r2.there 32 rfl
  have hnl := nodeL_length l r
  obtain ⟨out, hout⟩ : ∃ out, nodeL l r = out := ⟨_, rfl⟩
  have hout2 : sumL ([1] ++ l ++ r) = out := hout
  rw [hout] at hnl ⊢
  have hi := info32 out hnl
  have hh1 := enc8_one out
  have hol : (enc8 out).length = 32 := by rw [enc8_len, hnl]
  obtain ⟨al, hal⟩ : ∃ al, enc8 l = al := ⟨_, rfl⟩
  obtain ⟨ar, har⟩ : ∃ ar, enc8 r = ar := ⟨_, rfl⟩
  obtain ⟨ao, hao⟩ : ∃ ao, enc8 out = ao := ⟨_, rfl⟩
  rw [hal, har] at hW
  rw [hao] at hi hh1 hol
  rw [hal, har, hao]
  have HX := Lib.hid hout2
  have HAO := Lib.hid hao
  have HW := Lib.hid hW
  have HB := Lib.hid hb
  have HTH := Lib.hid hth
  have HI := Lib.hid hi
  have HO := Lib.hid hh1
  have HL := Lib.hid hol
  rw [hal] at r0
  rw [har] at r1
  have R0 := Lib.hid r0
  have R1 := Lib.hid r1
  have HAL := Lib.hid hal
  have HAR := Lib.hid har
  have S1 := Lib.hid (OB_lit W #[.int .u8 1] [1] (by decide) rfl)
  rw [hsz] at S1
  have HLL := Lib.hid hl
  have HRR := Lib.hid hr
  clear hW hb hth hi hh1 hol r0 r1 r2 hl hr hnl hout hout2 hal har hao
  go_enter Try.func25, Try.ntmps25
  go_wp2_with fail
  rw [HW.out]
  refine wp_region_noPanic ?_
  refine wp_region_held_drew (S := (fun w' => Mine A w w' ∧ w'.there (A + 1 + 1) 0 32 ∧ Row w' A 24 al ∧ Row w' (A + 1) 24 ar)) (by kernel_rfl) ?_ (fun hHeld => ?_)
  · exact ⟨⟨by show A ≤ W.heap.size; omega, HB.out.drew⟩, (World.there_drew W _ _ _).2 HTH.out, R0.out, R1.out⟩
  refine wpAnyH_take (i := 1) (oi := { dst := some 6, op := Op.slice 24 (Operand.tmp 2) none none none, type := 22, pos := "ref.go:17", after := #[], guard := none }) (v := ?v1) rfl (by kernel_rfl) (by kernel_rfl) (by kernel_rfl) (fun _ _ _ h => h) (Or.inl ⟨by rfl, ?y1⟩) (by assumption) ?r1
  case y1 => intro w hSw; (try dsimp only at hSw); go_simp; try with_reducible rfl
  try simp only [Act.put, List.setIfInBounds_toArray, List.set_cons_zero, List.set_cons_succ]
  refine wpAnyH_take (i := 3) (oi := { dst := some 8, op := Op.slice 24 (Operand.tmp 3) none none none, type := 22, pos := "ref.go:17", after := #[], guard := none }) (v := ?v3) rfl (by kernel_rfl) (by kernel_rfl) (by kernel_rfl) (fun _ _ _ h => h) (Or.inl ⟨by rfl, ?y3⟩) (by assumption) ?r3
  case y3 => intro w hSw; (try dsimp only at hSw); go_simp; try with_reducible rfl
  try simp only [Act.put, List.setIfInBounds_toArray, List.set_cons_zero, List.set_cons_succ]
  refine wpAnyH_ready (rs := [0]) (by kernel_rfl) (by simp) (AllReadyH.cons (o := { dst := some 5, op := Op.buildSlice 22 1 #[(0, Operand.const (Value.int IntKind.u8 1))], type := 22, pos := "ref.go:17", after := #[], guard := none }) rfl (fun K hK => ?_) AllReadyH.nil)
  go_simp
  refine hK.out _ _ ?_ (fun hHeld => ?_)
  · (try dsimp only); (go_split_ands; (repeat' apply And.intro) <;> first | assumption | exact Mine.call (by assumption) (by assumption) | exact Mine.alloc (by assumption) _ | exact Mine.setCells (by assumption) _ _ _ (by omega) | exact Mine.callN (by assumption) (by assumption) (by omega) | exact Row.belowN (by assumption) (by assumption) (by omega) | exact there_belowN (by assumption) (by assumption) (by omega) | exact rangeAt_below (by assumption) (by assumption) | exact World.rangeAt_alloc (by assumption) _ | exact there_below (by assumption) (by assumption) | exact World.there_alloc (by assumption) _ | exact World.there_setCells (by assumption) _ _ _ | exact Row.belowS (by assumption) (by assumption) | exact Row.alloc (by assumption) _ | exact Row.setCells (by assumption) _ _ (by omega) | exact HS.below (by assumption) (by assumption) | exact HS.alloc (by assumption) _)
  clear hK K
  try simp only [Act.put, List.setIfInBounds_toArray, List.set_cons_zero, List.set_cons_succ]
  refine wpAnyH_ready (rs := [2]) (by kernel_rfl) (by simp) (AllReadyH.cons (o := { dst := some 7, op := Op.call { callee := Callee.builtin Builtin.append, args := #[Operand.tmp 5, Operand.tmp 6], argTypes := #[22, 22] }, type := 22, pos := "ref.go:17", after := #[{ on := 0, ground := Ground.data }, { on := 1, ground := Ground.data }], guard := none }) rfl (fun K hK => ?_) AllReadyH.nil)
  refine stepB_append rfl (.tmp 5) (.tmp 6) rfl (A + 3) _ _ [1] l rfl S1.out rfl (SB_row (l := l) (by rw [HAL.out]; exact hHeld.2.2.1) HLL.out) (by rw [HLL.out]; decide) (by show A + 3 ≤ (W.heap.push _).size; simp; omega) ?_; intro v1 w1 hown1 hg1 hb1
  refine hK.out _ _ ?_ (fun hHeld => ?_)
  · (try dsimp only); (go_split_ands; (repeat' apply And.intro) <;> first | assumption | exact Mine.call (by assumption) (by assumption) | exact Mine.alloc (by assumption) _ | exact Mine.setCells (by assumption) _ _ _ (by omega) | exact Mine.callN (by assumption) (by assumption) (by omega) | exact Row.belowN (by assumption) (by assumption) (by omega) | exact there_belowN (by assumption) (by assumption) (by omega) | exact rangeAt_below (by assumption) (by assumption) | exact World.rangeAt_alloc (by assumption) _ | exact there_below (by assumption) (by assumption) | exact World.there_alloc (by assumption) _ | exact World.there_setCells (by assumption) _ _ _ | exact Row.belowS (by assumption) (by assumption) | exact Row.alloc (by assumption) _ | exact Row.setCells (by assumption) _ _ (by omega) | exact HS.below (by assumption) (by assumption) | exact HS.alloc (by assumption) _)
  clear hK K
  try simp only [Act.put, List.setIfInBounds_toArray, List.set_cons_zero, List.set_cons_succ]
  refine wpAnyH_ready (rs := [4]) (by kernel_rfl) (by simp) (AllReadyH.cons (o := { dst := some 9, op := Op.call { callee := Callee.builtin Builtin.append, args := #[Operand.tmp 7, Operand.tmp 8], argTypes := #[22, 22] }, type := 22, pos := "ref.go:17", after := #[{ on := 2, ground := Ground.data }, { on := 3, ground := Ground.data }, { on := 2, ground := Ground.chain }], guard := none }) rfl (fun K hK => ?_) AllReadyH.nil)
  refine stepB_append rfl (.tmp 7) (.tmp 8) rfl (A + 3) _ _ ([1] ++ l) r rfl hown1 rfl (SB_row (l := r) (by rw [HAR.out]; exact hHeld.2.2.2) HRR.out) (by simp [HLL.out, HRR.out]) (by have h1 := hb1.size; have h2 : (W.alloc (.cells #[.int .u8 1] 5)).heap.size = W.heap.size + 1 := (by show (W.heap.push _).size = _; simp); have h3 : (W.alloc (.cells #[.int .u8 1] 5)).heap.size ≤ w1.heap.size := h1; omega) ?_; intro v2 w2 hown2 hg2 hb2; have hs := rsum_any v2 ([1] ++ l ++ r) w2 hown2.reads (by simp [HLL.out, HRR.out]); rw [HX.out, HAO.out] at hs
  refine hK.out _ _ ?_ (fun hHeld => ?_)
  · (try dsimp only); (go_split_ands; (repeat' apply And.intro) <;> first | assumption | exact Mine.call (by assumption) (by assumption) | exact Mine.alloc (by assumption) _ | exact Mine.setCells (by assumption) _ _ _ (by omega) | exact Mine.callN (by assumption) (by assumption) (by omega) | exact Row.belowN (by assumption) (by assumption) (by omega) | exact there_belowN (by assumption) (by assumption) (by omega) | exact rangeAt_below (by assumption) (by assumption) | exact World.rangeAt_alloc (by assumption) _ | exact there_below (by assumption) (by assumption) | exact World.there_alloc (by assumption) _ | exact World.there_setCells (by assumption) _ _ _ | exact Row.belowS (by assumption) (by assumption) | exact Row.alloc (by assumption) _ | exact Row.setCells (by assumption) _ _ (by omega) | exact HS.below (by assumption) (by assumption) | exact HS.alloc (by assumption) _)
  clear hK K
  try simp only [Act.put, List.setIfInBounds_toArray, List.set_cons_zero, List.set_cons_succ]
  refine wpAnyH_ready (rs := [5]) (by kernel_rfl) (by simp) (AllReadyH.cons (o := { dst := some 10, op := Op.call { callee := Callee.value (Operand.func 16), args := #[Operand.tmp 9], argTypes := #[22] }, type := 24, pos := "ref.go:17", after := #[{ on := 4, ground := Ground.data }, { on := 4, ground := Ground.chain }], guard := none }) rfl (fun K hK => ?_) AllReadyH.nil)
  go_simp
  refine hs.mono ?_; rintro e w' ⟨rfl, hb⟩; have hi := HI.out; have hh1 := HO.out; have hol := HL.out
  go_wp2_with fail
  refine hK.out _ _ ?_ (fun hHeld => ?_)
  · (try dsimp only); (go_split_ands; (repeat' apply And.intro) <;> first | assumption | exact Mine.call (by assumption) (by assumption) | exact Mine.alloc (by assumption) _ | exact Mine.setCells (by assumption) _ _ _ (by omega) | exact Mine.callN (by assumption) (by assumption) (by omega) | exact Row.belowN (by assumption) (by assumption) (by omega) | exact there_belowN (by assumption) (by assumption) (by omega) | exact rangeAt_below (by assumption) (by assumption) | exact World.rangeAt_alloc (by assumption) _ | exact there_below (by assumption) (by assumption) | exact World.there_alloc (by assumption) _ | exact World.there_setCells (by assumption) _ _ _ | exact Row.belowS (by assumption) (by assumption) | exact Row.alloc (by assumption) _ | exact Row.setCells (by assumption) _ _ (by omega) | exact HS.below (by assumption) (by assumption) | exact HS.alloc (by assumption) _)
  clear hK K
  try simp only [Act.put, List.setIfInBounds_toArray, List.set_cons_zero, List.set_cons_succ]
  have hPre := hHeld
  refine wpAnyH_ready (rs := [6]) (by kernel_rfl) (by simp) (AllReadyH.cons (o := { dst := none, op := Op.store 24 (Operand.tmp 4) (Operand.tmp 10), type := 0, pos := "ref.go:17", after := #[{ on := 5, ground := Ground.data }, { on := 5, ground := Ground.chain }, { on := 0, ground := Ground.phase }, { on := 1, ground := Ground.phase }, { on := 2, ground := Ground.phase }, { on := 3, ground := Ground.phase }, { on := 4, ground := Ground.phase }, { on := 5, ground := Ground.phase }], guard := none }) rfl (fun K hK => ?_) AllReadyH.nil)
  rw [if_pos (by rfl)]
  refine wp_store_mid _ _ _ rfl _ _ (List.toArray _) rfl rfl (by go_split_ands; first | assumption | (simp only [List.size_toArray, *] <;> assumption)) (by first | assumption | (simp only [List.size_toArray] <;> assumption) | (simp only [List.size_toArray, *]; done)) (all_oneCell_toArray (by assumption)) ?_
  simp only [Act.put, List.setIfInBounds_toArray, List.set_cons_zero, List.set_cons_succ, List.toList_toArray]
  refine hK.out _ _ ?_ (fun hHeld => ?_)
  · (try dsimp only); (go_split_ands; (repeat' apply And.intro) <;> first | assumption | exact Mine.call (by assumption) (by assumption) | exact Mine.alloc (by assumption) _ | exact Mine.setCells (by assumption) _ _ _ (by omega) | exact Mine.callN (by assumption) (by assumption) (by omega) | exact Row.belowN (by assumption) (by assumption) (by omega) | exact there_belowN (by assumption) (by assumption) (by omega) | exact rangeAt_below (by assumption) (by assumption) | exact World.rangeAt_alloc (by assumption) _ | exact there_below (by assumption) (by assumption) | exact World.there_alloc (by assumption) _ | exact World.there_setCells (by assumption) _ _ _ | exact Row.belowS (by assumption) (by assumption) | exact Row.alloc (by assumption) _ | exact Row.setCells (by assumption) _ _ (by omega) | exact HS.below (by assumption) (by assumption) | exact HS.alloc (by assumption) _)
  clear hK K
  refine wpAnyH_done (by kernel_rfl) ?_ _
  refine NoPanic.normal ?_
  have hr := Lib.hid (World.rangeAt_setCells_same w' (A + 1 + 1) 0 ao (by rw [HL.out]; exact hPre.2.1))
  have hfin := Lib.hid hHeld.1.bel
  clear hHeld hPre hi hh1 hol hs hown1 hown2 hb hb1 hb2 hg1 hg2
  go_wp2
  refine bodyPost_ret (v := .agg ao.toArray) (range_result hr.out Try.results25 _ _ _ rfl Try.underlying24 HI.out) rfl ?_
  exact ⟨rfl, by rw [hA]; exact hfin.out⟩
end Go.Proofs.Ytkipnhhdlohnfaa

/- seal.Bytes. -/
import Derived.RangeFuncNested
import Derived.RangeFuncBound
import Derived.RangeFuncCalls
import Derived.RangeFuncLeaves
import Derived.Shelf.Abstract
import Derived.Shelf.RegionOpen
import Derived.WalkKit
import Derived.OwnWalkIn
import Derived.TacticsInMore
import Derived.LoopNIn
import Derived.LoopIn
import Derived.Outline
import Derived.Lib.Hide
import Derived.Lib.SliceRun
import Derived.IntWalk
import Derived.WalkLawsBesides
import Derived.WalkSpells
import Derived.Laws.BitsAllLaws
import Derived.Lib.ConvBytes
import Derived.Maps.AppendAt
import Derived.Lib.AppendStr
import Derived.Lib.SlBytesConst
import Derived.Laws.AppendOwnNone
import Derived.Laws.OwnMore
import Derived.Laws.BytesArg
import Derived.Deep.RegionHeld3
import Derived.BigQuiet
import Derived.Deep.RegionLaw
import Derived.Deep.QuietTactic
import Derived.Lib.OthersKept
import Derived.Test.YtnepmhdnkcnnmaaProg
import Derived.Deep.DeepFit
import Derived.Laws.MakeOwn
import Derived.Test.YtnepmhdnkcnnmaaSeC
set_option linter.unusedVariables false
set_option linter.unusedSimpArgs false
namespace Go.Proofs.Ytnepmhdnkcnnmaa
open Go Go.RowKit Go.Shelf

/-- a byte of a number -/
def byI (n : Int) : UInt8 := UInt8.ofNat (n % 256).toNat
theorem byI_nat (n : Int) : ((byI n).toNat : Int) = n % 256 := by
  unfold byI
  rw [UInt8.toNat_ofNat']
  omega
/-- four bytes, the highest ahead -/
def bs4 (n : Int) : List UInt8 := [byI (n / 16777216), byI (n / 65536), byI (n / 256), byI n]
def sealB (s c : Int) (r p : List UInt8) : List UInt8 := bs4 s ++ bs4 c ++ r ++ p
/-- the eight bytes ahead, i rounds in -/
def bst (s c : Int) (i : Nat) : List UInt8 := (bs4 s).take i ++ List.replicate (4 - i) 0 ++ ((bs4 c).take i ++ List.replicate (4 - i) 0) ++ List.replicate 64 0

theorem bst_zero (s c : Int) : bst s c 0 = List.replicate 72 0 := by
  simp only [bst, List.take_zero, List.nil_append]
  decide
theorem bst_four (s c : Int) : bst s c 4 = bs4 s ++ bs4 c ++ List.replicate 64 0 := by simp [bst, bs4]
theorem bst_length (s c : Int) (i : Nat) (hi : i ≤ 4) : (bst s c i).length = 72 := by
  have h : i = 0 ∨ i = 1 ∨ i = 2 ∨ i = 3 ∨ i = 4 := by omega
  rcases h with rfl | rfl | rfl | rfl | rfl <;> simp [bst, bs4]
theorem bst_step (s c : Int) (i : Nat) (hi : i < 4) : ((enc8 (bst s c i)).set i (.int .u8 ((s / 2 ^ (24 - 8 * i)) % 256))).set (4 + i) (.int .u8 ((c / 2 ^ (24 - 8 * i)) % 256)) = enc8 (bst s c (i + 1)) := by
  have h : i = 0 ∨ i = 1 ∨ i = 2 ∨ i = 3 := by omega
  rcases h with rfl | rfl | rfl | rfl <;> simp [bst, bs4, enc8, byI_nat, List.replicate]
set_option maxRecDepth 100000 in
theorem run_make72 (w : World) : (Instr.makeSlice 34 (.int .i64 8) (.int .i64 72)).run Try.prog w = .ok (.slice (some ⟨w.heap.size, 0, none⟩) 8 72) (w.alloc (.cells (enc8 (List.replicate 72 0)).toArray 5)) := by kernel_rfl

theorem gb_append_left (a b : List UInt8) (i : Nat) (h : i < a.length) : gb (a ++ b) i = gb a i := by
  unfold gb; rw [List.getElem?_append_left h]
set_option maxHeartbeats 2000000 in
set_option maxRecDepth 100000 in
theorem bytes_any (s c : Int) (r p : List UInt8) (hr : r.length = 32) (hp : p.length = 32) (w : World) :
    Calls Try.prog 14 #[.agg (sealC s c r p).toArray] w fun e w' => ∃ u, e = .returned u ∧ OB w' w.heap.size u (sealB s c r p) ∧ Below w.heap.size w w' := by
  obtain ⟨sc, hsc⟩ : ∃ sc, sealC s c r p = sc := ⟨_, rfl⟩
  rw [hsc]
  have k0 : sc[0]? = some (.int .i64 s) := by rw [← hsc]; rfl
  have k1 : sc[1]? = some (.int .i64 c) := by rw [← hsc]; rfl
  have kr : ∀ i, i < 32 → sc[2 + i]? = some (.int .u8 (gb r i)) := by
    intro i hi
    rw [← hsc, ← enc8_get r i (by omega)]
    unfold sealC
    rw [show 2 + i = i + 1 + 1 by omega, List.getElem?_cons_succ, List.getElem?_cons_succ, List.getElem?_append_left (by rw [enc8_len]; omega)]
  have kp : ∀ i, i < 32 → sc[34 + i]? = some (.int .u8 (gb p i)) := by
    intro i hi
    rw [← hsc, ← enc8_get p i (by omega)]
    unfold sealC
    rw [show 34 + i = (32 + i) + 1 + 1 by omega, List.getElem?_cons_succ, List.getElem?_cons_succ, List.getElem?_append_right (by rw [enc8_len]; omega), enc8_len, hr]
    congr 1; omega
  obtain ⟨A, hA⟩ : ∃ A, w.heap.size = A := ⟨_, rfl⟩
  have hsz1 : (w.alloc (.cells sc.toArray 27)).heap.size = A + 1 := by rw [alloc_size, hA]
  have hz : (List.replicate 72 (0 : UInt8)) = bst s c 0 := (bst_zero s c).symm
  obtain ⟨z72, hz72⟩ : ∃ z : List UInt8, List.replicate 72 (0 : UInt8) = z := ⟨_, rfl⟩
  have km := run_make72
  rw [hz72] at km hz
  have r0 : Row ((w.alloc (.cells sc.toArray 27)).alloc (.cells (enc8 z72).toArray 5)) A 27 sc := by rw [← hA]; exact (Row.new w sc.toArray 27).alloc _
  have r1 : Row ((w.alloc (.cells sc.toArray 27)).alloc (.cells (enc8 z72).toArray 5)) (A + 1) 5 (enc8 (bst s c 0)) := by rw [← hsz1, ← hz]; exact Row.new _ (enc8 z72).toArray 5
  have m0 : Mine A w ((w.alloc (.cells sc.toArray 27)).alloc (.cells (enc8 z72).toArray 5)) := (Mine.alloc ⟨by omega, Below.refl _ _⟩ _).alloc _
  have R0 := Lib.hid r0
  have R1 := Lib.hid r1
  have M0 := Lib.hid m0
  have K0 := Lib.hid k0
  have K1 := Lib.hid k1
  have KR := Lib.hid kr
  have KP := Lib.hid kp
  have HRL := Lib.hid hr
  have HPL := Lib.hid hp
  clear r0 r1 m0 k0 k1 kr kp hsc hz hz72 hsz1 hr hp
  go_enter Try.func14, Try.ntmps14
  go_wp2
  go_loopw [6] (fun x wr => ∃ i : Nat, (x = .int .i64 (i : Int) ∧ i ≤ 4) ∧ Row wr A 27 sc ∧ Row wr (A + 1) 5 (enc8 (bst s c i)) ∧ Mine A w wr) (fun x _ => 4 - (intOf x).toNat)
  case atStart => exact ⟨0, ⟨rfl, by omega⟩, R0.out, R1.out, M0.out⟩
  case round =>
    clear R0 R1 M0 km
    obtain ⟨i, ⟨rfl, hi⟩, ra, rb, mm⟩ := hrel
    by_cases hlt : i < 4
    · obtain ⟨m, hm⟩ : ∃ m, 24 - 8 * i = m := ⟨_, rfl⟩
      have hst := bst_step s c i hlt
      rw [hm] at hst
      have hlen : (enc8 (bst s c i)).length = 72 := by rw [enc8_len, bst_length s c i hi]
      have c0 : wr.cell? ⟨A, 0, none⟩ = some (.int .i64 s) := by rw [ra.cell 0]; exact K0.out
      have c1 : wr.cell? ⟨A, 1, none⟩ = some (.int .i64 c) := by rw [ra.cell 1]; exact K1.out
      have x1 : IntKind.i64.wrap (8 * (i : Int)) = 8 * (i : Int) := IntWalk.i64_in _ (by omega)
      have x2 : IntKind.i64.wrap (24 - 8 * (i : Int)) = (m : Int) := by rw [IntWalk.i64_in _ (by omega)]; omega
      have x3 : IntKind.i64.wrap (4 + (i : Int)) = ((4 + i : Nat) : Int) := by rw [IntWalk.i64_in _ (by omega)]; omega
      have x4 : (m : Int) ≤ 64 := by omega
      have x5 : IntKind.i64.wrap ((i : Int) + 1) = (i : Int) + 1 := IntWalk.i64_in _ (by omega)
      have d0 : wr.cell? ⟨A + 1, i, none⟩ = some ((enc8 (bst s c i))[i]'(by omega)) := by rw [rb.cell i]; exact List.getElem?_eq_getElem _
      have f0 : wr.frozen? ⟨A + 1, i, none⟩ = false := rb.frozen i
      obtain ⟨o0, ho0⟩ : ∃ o0, (enc8 (bst s c i))[i]'(by omega) = o0 := ⟨_, rfl⟩
      rw [ho0] at d0
      have ra1 := ra.other ⟨A + 1, i, none⟩ (.int .u8 (s / 2 ^ m % 256)) (by simp)
      have rb1 := rb.set i (.int .u8 (s / 2 ^ m % 256))
      have c2 : (wr.setCell ⟨A + 1, i, none⟩ (.int .u8 (s / 2 ^ m % 256))).cell? ⟨A, 1, none⟩ = some (.int .i64 c) := by rw [ra1.cell 1]; exact K1.out
      have d1 : (wr.setCell ⟨A + 1, i, none⟩ (.int .u8 (s / 2 ^ m % 256))).cell? ⟨A + 1, 4 + i, none⟩ = some (((enc8 (bst s c i)).set i (.int .u8 (s / 2 ^ m % 256)))[4 + i]'(by simp; omega)) := by rw [rb1.cell (4 + i)]; exact List.getElem?_eq_getElem _
      have f1 : (wr.setCell ⟨A + 1, i, none⟩ (.int .u8 (s / 2 ^ m % 256))).frozen? ⟨A + 1, 4 + i, none⟩ = false := rb1.frozen (4 + i)
      obtain ⟨o1, ho1⟩ : ∃ o1, (((enc8 (bst s c i)).set i (.int .u8 (s / 2 ^ m % 256)))[4 + i]'(by simp; omega)) = o1 := ⟨_, rfl⟩
      rw [ho1] at d1
      have ra2 := ra1.other ⟨A + 1, 4 + i, none⟩ (.int .u8 (c / 2 ^ m % 256)) (by simp)
      have rb2 := rb1.set (4 + i) (.int .u8 (c / 2 ^ m % 256))
      rw [hst] at rb2
      have mm2 : Mine A w ((wr.setCell ⟨A + 1, i, none⟩ (.int .u8 (s / 2 ^ m % 256))).setCell ⟨A + 1, 4 + i, none⟩ (.int .u8 (c / 2 ^ m % 256))) := ⟨by rw [World.size_setCell, World.size_setCell]; exact mm.le, below_setCell (below_setCell mm.bel ⟨A + 1, i, none⟩ (by simp) _) ⟨A + 1, 4 + i, none⟩ (by simp) _⟩
      have RA := Lib.hid ra2
      have RB := Lib.hid rb2
      have MM := Lib.hid mm2
      have hi4 : i < 8 := by omega
      have hi5 : 4 + i < 8 := by omega
      clear ra rb mm ra1 rb1 ra2 rb2 mm2 hst hlen ho0 ho1 hm
      go_wp2
      go_roundw
      case rel => exact ⟨i + 1, ⟨by go_num, by omega⟩, RA.out, RB.out, MM.out⟩
      case measure => simp [intOf]; omega
    · obtain rfl : i = 4 := by omega
      rw [bst_four] at rb
      have s1 : SB wr (.slice (some ⟨A + 1, 0, none⟩) 8 72) (bs4 s ++ bs4 c) := by
        refine .inr ⟨_, 72, rfl, by simp [bs4], by decide, fun _ => ⟨A + 1, 0, rfl, fun j hj => ?_⟩⟩
        have hj' : j < 8 := hj
        rw [Nat.zero_add, rb.cell j, enc8_get _ j (by simp [bs4]; omega), gb_append_left _ _ j hj]
      have s2 : SB wr (.slice (some ⟨A, 2, none⟩) 32 32) r := by
        refine .inr ⟨_, 32, by rw [HRL.out], by rw [HRL.out]; omega, by omega, fun _ => ⟨A, 2, rfl, fun j hj => ?_⟩⟩
        rw [ra.cell (2 + j)]; exact KR.out j (by rw [HRL.out] at hj; exact hj)
      have s3 : SB wr (.slice (some ⟨A, 34, none⟩) 32 32) p := by
        refine .inr ⟨_, 32, by rw [HPL.out], by rw [HPL.out]; omega, by omega, fun _ => ⟨A, 34, rfl, fun j hj => ?_⟩⟩
        rw [ra.cell (34 + j)]; exact KP.out j (by rw [HPL.out] at hj; exact hj)
      have hss0 := SS_new wr [.slice (some ⟨A + 1, 0, none⟩) 8 72, .slice (some ⟨A, 2, none⟩) 32 32, .slice (some ⟨A, 34, none⟩) 32 32] [bs4 s ++ bs4 c, r, p] 34 rfl (by simp) (by
        intro i v x hv hx
        match i with
        | 0 => simp at hv hx; subst hv hx; exact s1
        | 1 => simp at hv hx; subst hv hx; exact s2
        | 2 => simp at hv hx; subst hv hx; exact s3
        | i + 3 => simp at hv)
      have hss := SS_below hss0 (Below.refl _ _).drew
      have hca := concat_any _ _ _ hss (sealB s c r p) (by simp [sealB]) (by simp [sealB, bs4]) (by simp [sealB, bs4, HRL.out, HPL.out]) (by simp)
      have HC := Lib.hid hca
      have HM := Lib.hid mm
      have hAw : A ≤ wr.heap.size := mm.le
      have HA := Lib.hid hAw
      clear hca s1 s2 s3 hss hss0 ra rb mm hAw
      go_wp2
      refine wp_region_noPanic ?_
      refine wp_region_held_drew (S := (fun w' => Mine A w w')) (by kernel_rfl) ?_ (fun hHeld => ?_)
      · exact ⟨HM.out.le, HM.out.bel.drew⟩
      refine wpAnyH_take (i := 0) (oi := { dst := some 31, op := Op.move (Operand.tmp 3), type := 34, pos := "seal.go:30", after := #[], guard := none }) (v := ?v0_0) rfl (by kernel_rfl) (by kernel_rfl) (by kernel_rfl) (fun _ _ _ h => h) (Or.inl ⟨by rfl, ?y0_0⟩) (by assumption) ?r0_0
      case y0_0 => intro w hSw; (try dsimp only at hSw); go_simp; try with_reducible rfl
      try simp only [Act.put, List.setIfInBounds_toArray, List.set_cons_zero, List.set_cons_succ]
      refine wpAnyH_take (i := 1) (oi := { dst := some 32, op := Op.fieldAddr 27 (Operand.tmp 1) 2, type := 0, pos := "seal.go:30", after := #[], guard := none }) (v := ?v1_1) rfl (by kernel_rfl) (by kernel_rfl) (by kernel_rfl) (fun _ _ _ h => h) (Or.inl ⟨by rfl, ?y1_1⟩) (by assumption) ?r1_1
      case y1_1 => intro w hSw; (try dsimp only at hSw); go_simp; try with_reducible rfl
      try simp only [Act.put, List.setIfInBounds_toArray, List.set_cons_zero, List.set_cons_succ]
      refine wpAnyH_take (i := 2) (oi := { dst := some 33, op := Op.slice 23 (Operand.tmp 32) none none none, type := 34, pos := "seal.go:30", after := #[{ on := 1, ground := Ground.data }], guard := none }) (v := ?v2_2) rfl (by kernel_rfl) (by kernel_rfl) (by kernel_rfl) (fun _ _ _ h => h) (Or.inl ⟨by rfl, ?y2_2⟩) (by assumption) ?r2_2
      case y2_2 => intro w hSw; (try dsimp only at hSw); go_simp; try with_reducible rfl
      try simp only [Act.put, List.setIfInBounds_toArray, List.set_cons_zero, List.set_cons_succ]
      refine wpAnyH_take (i := 3) (oi := { dst := some 34, op := Op.fieldAddr 27 (Operand.tmp 1) 3, type := 0, pos := "seal.go:30", after := #[], guard := none }) (v := ?v3_3) rfl (by kernel_rfl) (by kernel_rfl) (by kernel_rfl) (fun _ _ _ h => h) (Or.inl ⟨by rfl, ?y3_3⟩) (by assumption) ?r3_3
      case y3_3 => intro w hSw; (try dsimp only at hSw); go_simp; try with_reducible rfl
      try simp only [Act.put, List.setIfInBounds_toArray, List.set_cons_zero, List.set_cons_succ]
      refine wpAnyH_take (i := 4) (oi := { dst := some 35, op := Op.slice 23 (Operand.tmp 34) none none none, type := 34, pos := "seal.go:30", after := #[{ on := 3, ground := Ground.data }], guard := none }) (v := ?v4_4) rfl (by kernel_rfl) (by kernel_rfl) (by kernel_rfl) (fun _ _ _ h => h) (Or.inl ⟨by rfl, ?y4_4⟩) (by assumption) ?r4_4
      case y4_4 => intro w hSw; (try dsimp only at hSw); go_simp; try with_reducible rfl
      try simp only [Act.put, List.setIfInBounds_toArray, List.set_cons_zero, List.set_cons_succ]
      refine wpAnyH_ready (rs := [5]) (by kernel_rfl) (by simp) (AllReadyH.cons (o := { dst := some 36, op := Op.buildSlice 56 3 #[(0, Operand.tmp 31), (1, Operand.tmp 33), (2, Operand.tmp 35)], type := 56, pos := "seal.go:30", after := #[{ on := 0, ground := Ground.data }, { on := 2, ground := Ground.data }, { on := 4, ground := Ground.data }], guard := none }) rfl (fun K hK => ?_) AllReadyH.nil)
      go_simp
      refine hK.out _ _ ?_ (fun hHeld => ?_)
      · (try dsimp only); (go_split_ands; (repeat' apply And.intro) <;> first | assumption | exact Mine.call (by assumption) (by assumption) | exact Mine.alloc (by assumption) _ | exact Mine.setCells (by assumption) _ _ _ (by omega) | exact Mine.callN (by assumption) (by assumption) (by omega) | exact Row.belowN (by assumption) (by assumption) (by omega) | exact there_belowN (by assumption) (by assumption) (by omega) | exact rangeAt_below (by assumption) (by assumption) | exact World.rangeAt_alloc (by assumption) _ | exact World.rangeAt_setCells_apart (by assumption) _ _ _ (Or.inl (by omega)) | exact there_below (by assumption) (by assumption) | exact World.there_alloc (by assumption) _ | exact World.there_setCells (by assumption) _ _ _ | exact Row.belowS (by assumption) (by assumption) | exact Row.alloc (by assumption) _ | exact Row.setCells (by assumption) _ _ (by omega) | exact HS.below (by assumption) (by assumption) | exact HS.alloc (by assumption) _)
      clear hK K
      try simp only [Act.put, List.setIfInBounds_toArray, List.set_cons_zero, List.set_cons_succ]
      refine wpAnyH_ready (rs := [6]) (by kernel_rfl) (by simp) (AllReadyH.cons (o := { dst := some 37, op := Op.call { callee := Callee.value (Operand.func 28), args := #[Operand.tmp 36], argTypes := #[56] }, type := 34, pos := "seal.go:30", after := #[{ on := 5, ground := Ground.data }], guard := none }) rfl (fun K hK => ?_) AllReadyH.nil)
      go_simp
      refine HC.out.mono ?_; rintro e w' ⟨u, rfl, ho, hb⟩
      go_wp2_with fail
      refine hK.out _ _ ?_ (fun hHeld => ?_)
      · (try dsimp only); (go_split_ands; (repeat' apply And.intro) <;> first | assumption | exact Mine.call (by assumption) (by assumption) | exact Mine.alloc (by assumption) _ | exact Mine.setCells (by assumption) _ _ _ (by omega) | exact Mine.callN (by assumption) (by assumption) (by omega) | exact Row.belowN (by assumption) (by assumption) (by omega) | exact there_belowN (by assumption) (by assumption) (by omega) | exact rangeAt_below (by assumption) (by assumption) | exact World.rangeAt_alloc (by assumption) _ | exact World.rangeAt_setCells_apart (by assumption) _ _ _ (Or.inl (by omega)) | exact there_below (by assumption) (by assumption) | exact World.there_alloc (by assumption) _ | exact World.there_setCells (by assumption) _ _ _ | exact Row.belowS (by assumption) (by assumption) | exact Row.alloc (by assumption) _ | exact Row.setCells (by assumption) _ _ (by omega) | exact HS.below (by assumption) (by assumption) | exact HS.alloc (by assumption) _)
      clear hK K
      try simp only [Act.put, List.setIfInBounds_toArray, List.set_cons_zero, List.set_cons_succ]
      refine wpAnyH_take (i := 7) (oi := { dst := some 2, op := Op.assign (Operand.tmp 37), type := 34, pos := "seal.go:30", after := #[{ on := 6, ground := Ground.data }, { on := 6, ground := Ground.chain }, { on := 0, ground := Ground.phase }, { on := 1, ground := Ground.phase }, { on := 2, ground := Ground.phase }, { on := 3, ground := Ground.phase }, { on := 4, ground := Ground.phase }, { on := 5, ground := Ground.phase }, { on := 6, ground := Ground.phase }], guard := none }) (v := ?v7_5) rfl (by kernel_rfl) (by kernel_rfl) (by kernel_rfl) (fun _ _ _ h => h) (Or.inl ⟨by rfl, ?y7_5⟩) (by assumption) ?r7_5
      case y7_5 => intro w hSw; (try dsimp only at hSw); go_simp; try with_reducible rfl
      try simp only [Act.put, List.setIfInBounds_toArray, List.set_cons_zero, List.set_cons_succ]
      refine wpAnyH_done (by kernel_rfl) ?_ _
      refine NoPanic.normal ?_
      have HO := Lib.hid (ho.mono (B' := A) (Nat.le_trans HA.out (by show wr.heap.size ≤ (wr.heap.push _).size; simp)))
      have HF := Lib.hid hHeld.bel
      clear ho hb hHeld HC
      go_wp2
      go_ret
      exact ⟨_, rfl, by rw [hA]; exact HO.out, by rw [hA]; exact HF.out⟩
end Go.Proofs.Ytnepmhdnkcnnmaa

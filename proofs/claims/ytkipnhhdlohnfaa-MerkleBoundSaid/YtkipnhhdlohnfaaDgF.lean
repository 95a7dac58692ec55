/- digest.Join, digest.Sum. -/
import Derived.RangeFuncNested
import Derived.RangeFuncBound
import Derived.RangeFuncCalls
import Derived.RangeFuncLeaves
import Derived.Shelf.Abstract
import Derived.Shelf.RegionOpen
import Derived.WalkKit
import Derived.OwnWalkIn
import Derived.TacticsInMore
import Derived.LoopNIn
import Derived.LoopIn
import Derived.Outline
import Derived.Lib.Hide
import Derived.Lib.SliceRun
import Derived.IntWalk
import Derived.WalkLawsBesides
import Derived.WalkSpells
import Derived.Laws.BitsAllLaws
import Derived.Lib.ConvBytes
import Derived.Maps.AppendAt
import Derived.Lib.AppendStr
import Derived.Lib.SlBytesConst
import Derived.Laws.AppendOwnNone
import Derived.Laws.OwnMore
import Derived.Laws.BytesArg
import Derived.Deep.RegionHeld3
import Derived.BigQuiet
import Derived.Deep.RegionLaw
import Derived.Deep.QuietTactic
import Derived.Test.YtkipnhhdlohnfaaProg
import Derived.Test.YtkipnhhdlohnfaaDgE
import Derived.Test.YtkipnhhdlohnfaaDgZ
set_option linter.unusedVariables false
set_option linter.unusedSimpArgs false
namespace Go.Proofs.Ytkipnhhdlohnfaa
open Go Go.RowKit Go.Shelf

theorem enc8_set (l : List UInt8) (i : Nat) (x : UInt8) : (enc8 l).set i (.int .u8 (x.toNat : Int)) = enc8 (l.set i x) := by unfold enc8; rw [List.map_set]
theorem enc8_all (l : List UInt8) : (enc8 l).toArray.all (·.oneCell') = true := by
  rw [Array.all_eq_true_iff_forall_mem]
  intro x hx
  simp [enc8] at hx
  obtain ⟨a, _, rfl⟩ := hx
  rfl
theorem flatten_take (ls : List (List UInt8)) (i : Nat) (h : i < ls.length) : (ls.take (i + 1)).flatten = (ls.take i).flatten ++ ls[i]?.getD [] := by
  rw [List.take_succ_eq_append_getElem h, List.flatten_append]
  simp [h]
theorem flatten_take_le (ls : List (List UInt8)) (i : Nat) : (ls.take i).flatten.length ≤ ls.flatten.length := by
  have h : ls.flatten = (ls.take i).flatten ++ (ls.drop i).flatten := by rw [← List.flatten_append, List.take_append_drop]
  rw [h]; simp
theorem OB.alloc {W : World} {B : Nat} {v : Value} {l : List UInt8} (h : OB W B v l) (o : Obj) : OB (W.alloc o) B v l := World.ownsRow.alloc h o
theorem Row.below' {W W' : World} {b n : Nat} {t : TypeId} {l : List Value} (h : Row W b t l) (hb : Below n W W') (hn : W.heap.size ≤ n) : Row W' b t l := h.below hb (by have := h.lt; omega)

set_option maxRecDepth 100000 in
set_option maxHeartbeats 1000000 in
/-- **digest.Join** -/
theorem join_gen (v : Value) (ls : List (List UInt8)) (w : World) (hv : SS w v ls) (L P : List UInt8) (hL : ls.flatten = L) (hP : pad L = P) (hmax : L.length ≤ 100000) (sf : Nat → St) (hs0 : (sf 0).list = SW) (hsf : ∀ k, sf (k + 1) = blockS (sf k) (P.drop (64 * k)))
    (N : Nat) (hN : N * 64 = P.length) (out : List UInt8) (hout : outB (sf N) = out) :
    Calls Try.prog 17 #[v] w fun e w' => e = .returned (.agg (enc8 out).toArray) ∧ Below w.heap.size w w' := by
  obtain ⟨A, c, rfl, ⟨hc1, hc2⟩, hcell⟩ := hv.form
  have Hcell := Lib.hid hcell
  have HL := Lib.hid hL
  have HP := Lib.hid hP
  have Hs0 := Lib.hid hs0
  have Hsf := Lib.hid hsf
  have HN := Lib.hid hN
  have Hout := Lib.hid hout
  obtain ⟨i0, hi, hz0, hz1, hz2⟩ := info_parts info5
  obtain ⟨B0, hB0⟩ : ∃ B0, w.heap.size = B0 := ⟨_, rfl⟩
  have hr0 : Row (w.alloc (.cells #[.int .u8 0, .int .u8 0, .int .u8 0, .int .u8 0, .int .u8 0, .int .u8 0, .int .u8 0, .int .u8 0, .int .u8 0, .int .u8 0, .int .u8 0, .int .u8 0, .int .u8 0, .int .u8 0, .int .u8 0, .int .u8 0, .int .u8 0, .int .u8 0, .int .u8 0, .int .u8 0, .int .u8 0, .int .u8 0, .int .u8 0, .int .u8 0, .int .u8 0, .int .u8 0, .int .u8 0, .int .u8 0, .int .u8 0, .int .u8 0, .int .u8 0, .int .u8 0] 24)) w.heap.size 24 (enc8 (List.replicate 32 0)) := Row.new w _ _
  have hb0 : Below w.heap.size w (w.alloc (.cells #[.int .u8 0, .int .u8 0, .int .u8 0, .int .u8 0, .int .u8 0, .int .u8 0, .int .u8 0, .int .u8 0, .int .u8 0, .int .u8 0, .int .u8 0, .int .u8 0, .int .u8 0, .int .u8 0, .int .u8 0, .int .u8 0, .int .u8 0, .int .u8 0, .int .u8 0, .int .u8 0, .int .u8 0, .int .u8 0, .int .u8 0, .int .u8 0, .int .u8 0, .int .u8 0, .int .u8 0, .int .u8 0, .int .u8 0, .int .u8 0, .int .u8 0, .int .u8 0] 24)) := (Below.refl _ w).alloc (Nat.le_refl _) _
  have hs1 : (w.alloc (.cells #[.int .u8 0, .int .u8 0, .int .u8 0, .int .u8 0, .int .u8 0, .int .u8 0, .int .u8 0, .int .u8 0, .int .u8 0, .int .u8 0, .int .u8 0, .int .u8 0, .int .u8 0, .int .u8 0, .int .u8 0, .int .u8 0, .int .u8 0, .int .u8 0, .int .u8 0, .int .u8 0, .int .u8 0, .int .u8 0, .int .u8 0, .int .u8 0, .int .u8 0, .int .u8 0, .int .u8 0, .int .u8 0, .int .u8 0, .int .u8 0, .int .u8 0, .int .u8 0] 24)).heap.size = w.heap.size + 1 := by show (w.heap.push _).size = _; simp
  rw [hB0] at hr0 hb0 hs1
  have R0 := Lib.hid hr0
  have HB0 := Lib.hid hb0
  have HS1 := Lib.hid hs1
  clear hv hcell hL hP hs0 hsf hN hout hr0 hb0 hs1
  go_enter Try.func17, Try.ntmps17
  go_wp2
  go_loopw [3, 16] (fun b q wr => ∃ i : Nat, (q = .int .i64 (i : Int) ∧ i ≤ ls.length) ∧ OB wr (B0 + 1) b ((ls.take i).flatten) ∧ Row wr B0 24 (enc8 (List.replicate 32 0)) ∧ Below B0 w wr ∧ B0 + 1 ≤ wr.heap.size) (fun _ q _ => ls.length - (intOf q).toNat)
  case atStart => exact ⟨0, ⟨rfl, by omega⟩, World.ownsRow_nil _ _ _ _, R0.out, HB0.out, by rw [HS1.out]; exact Nat.le_refl _⟩
  case round =>
    clear R0 HB0 HS1
    obtain ⟨i, ⟨rfl, hil⟩, hown, hr0, hb, hsz⟩ := hrel
    by_cases hlt : i < ls.length
    · obtain ⟨g, o, rfl, hcl⟩ := Hcell.out (by omega)
      obtain ⟨u, hu, hsb⟩ := hcl i hlt
      have hu1 : wr.cell? ⟨g, o + i, none⟩ = some u := (hb.cell (p := ⟨g, o + i, none⟩) (by rw [← hB0]; exact World.block_lt_of_cell? w _ hu)).trans hu
      have hsb1 : SB wr u (ls[i]?.getD []) := hsb.below (by rw [hB0]; exact hb)
      have hft := flatten_take ls i hlt
      have hle := flatten_take_le ls (i + 1)
      rw [HL.out, hft, List.length_append] at hle
      have Hown := Lib.hid hown
      have R0 := Lib.hid hr0
      have HB := Lib.hid hb
      have HSB := Lib.hid hsb1
      have Hft := Lib.hid hft
      obtain ⟨l1, hl1⟩ : ∃ l1, (ls.take i).flatten = l1 := ⟨_, rfl⟩
      obtain ⟨l2, hl2⟩ : ∃ l2, ls[i]?.getD [] = l2 := ⟨_, rfl⟩
      rw [hl1] at Hown
      rw [hl2] at HSB
      rw [hl1, hl2] at Hft hle
      clear hcl hu hsb hown hr0 hb hsb1 hft hl1 hl2
      obtain ⟨An, nn, cn, hun⟩ : ∃ An nn cn, u = .slice An nn cn := by obtain ⟨a, b, e, _⟩ := HSB.out.form; exact ⟨_, _, _, e⟩
      subst hun
      go_wp2_with (at_builtin; refine wpB_append rfl _ _ rfl (B0 + 1) _ _ l1 l2 rfl Hown.out rfl HSB.out (by omega) hsz ?_)
      intro v' w1 hown' hgrow hbel
      have R1 := Lib.hid (R0.out.below hbel (Nat.lt_succ_self _))
      have HB1 := Lib.hid (HB.out.trans (hbel.mono (Nat.le_succ _)))
      have HO := Lib.hid hown'
      have hsz1 : B0 + 1 ≤ w1.heap.size := Nat.le_trans hsz hbel.size
      clear hown' hgrow hbel Hown R0 HB HSB
      go_wp2
      go_roundw
      case rel => exact ⟨i + 1, ⟨by go_num, by omega⟩, by rw [Hft.out]; exact HO.out, R1.out, HB1.out, hsz1⟩
      case measure => simp [intOf]; omega
    · obtain rfl : i = ls.length := by omega
      rw [List.take_length, HL.out] at hown
      obtain ⟨A1, c1, rfl, hd1, hd2, -⟩ := hown.reads.form
      have Hown := Lib.hid hown
      have R0 := Lib.hid hr0
      have HB := Lib.hid hb
      clear hown hr0 hb
      have e1 : IntKind.u64.wrap (L.length : Int) = (L.length : Int) := by rw [IntKind.wrap_u64]; omega
      obtain ⟨n8, hn8⟩ : ∃ n8, 8 * L.length = n8 := ⟨_, rfl⟩
      have e2 : IntKind.u64.wrap ((L.length : Int) * 8) = (n8 : Int) := by rw [IntKind.wrap_u64]; omega
      go_wp2_with (at_builtin; refine wpB_append rfl _ _ rfl (B0 + 1) _ _ L [128] rfl (Hown.out.alloc _) rfl (OB_lit wr #[.int .u8 128] [128] (by simp) rfl).reads (by simp; omega) (by simp; omega) ?_)
      intro v1 w1 hown1 _ hbel1
      have hbw := hbel1
      have R1 := Lib.hid ((R0.out.alloc (.cells #[.int .u8 128] 5)).below hbel1 (Nat.lt_succ_self _))
      have HB1 := Lib.hid ((HB.out.alloc (by omega) (.cells #[.int .u8 128] 5)).trans (hbel1.mono (Nat.le_succ _)))
      have hsz1 : B0 + 1 ≤ w1.heap.size := Nat.le_trans (by simp; omega) hbel1.size
      obtain ⟨A2, c2, rfl, hd3, hd4, -⟩ := hown1.reads.form
      have HO1 := Lib.hid hown1
      have hl1 : (L ++ [128]).length = L.length + 1 := by simp
      rw [hl1] at hd3 HO1 ⊢
      clear hbw hown1 hbel1 Hown R0 HB
      obtain ⟨z, hz⟩ : ∃ z, (120 - (L.length + 1) % 64) % 64 = z := ⟨_, rfl⟩
      have hz1 : ((120 : Int) - ((L.length : Int) + 1)) % 64 = (z : Int) := by omega
      have hz2 : ((120 : Int) - ((L.length : Int) + 1) % 64) % 64 = (z : Int) := by omega
      have Hz := Lib.hid hz
      have hz64 : z < 64 := by omega
      clear hz
      obtain ⟨v2, w2, hrun, hown2, -, hbel2⟩ := runB_zeros (w := w1) 22 (B0 + 1) _ _ z HO1.out (by omega) (by rw [hl1]; omega) hsz1
      have R2 := Lib.hid (R1.out.below hbel2 (Nat.lt_succ_self _))
      have HB2 := Lib.hid (HB1.out.trans (hbel2.mono (Nat.le_succ _)))
      have hsz2 : B0 + 1 ≤ w2.heap.size := Nat.le_trans hsz1 hbel2.size
      have HO2 := Lib.hid hown2
      rw [← hz2] at hrun
      have Hrun := Lib.hid hrun
      clear hrun hown2 hbel2 HO1 R1 HB1 hz1 hz2
      go_wp2_with (at_builtin; refine Lib.wpList_append_run _ rfl _ _ 22 3 rfl _ _ rfl rfl _ _ Hrun.out ?_)
      clear Hrun
      obtain ⟨M, hM⟩ : ∃ M, L ++ [128] ++ List.replicate z 0 = M := ⟨_, rfl⟩
      rw [hM] at HO2
      have HM := Lib.hid hM
      have hMl : M.length = L.length + 1 + z := by rw [← hM]; simp; omega
      clear hM hl1
      go_loopw [3, 38] (fun b q wr => ∃ i : Nat, (q = .int .i64 (i : Int) ∧ i ≤ 8) ∧ wr.ownsRow (B0 + 1) 5 1 b (M.length + i) (enc8 (M ++ (be8 n8).take i)) ∧ Row wr B0 24 (enc8 (List.replicate 32 0)) ∧ Below B0 w wr ∧ B0 + 1 ≤ wr.heap.size) (fun _ q _ => 8 - (intOf q).toNat)
      case atStart => exact ⟨0, ⟨rfl, by omega⟩, by rw [List.take_zero, List.append_nil]; exact HO2.out, R2.out, HB2.out, hsz2⟩
      case round =>
        clear R2 HB2 HO2 hsz2
        obtain ⟨i, ⟨rfl, hi8⟩, hrow, hr0, hb, hszr⟩ := hrel
        have Hrow := Lib.hid hrow
        have R0 := Lib.hid hr0
        have HB := Lib.hid hb
        clear hrow hr0 hb
        by_cases h8 : i < 8
        · obtain ⟨m, hm⟩ : ∃ m, 56 - 8 * i = m := ⟨_, rfl⟩
          have s1 : IntKind.i64.wrap (56 - 8 * (i : Int)) = (m : Int) := by rw [IntWalk.i64_in _ (by omega)]; omega
          have s2 : IntKind.i64.wrap (8 * (i : Int)) = 8 * (i : Int) := IntWalk.i64_in _ (by omega)
          have s3 : (m : Int) ≤ 64 := by omega
          have hnat : (n8 : Int) / 2 ^ m = ((n8 / 2 ^ m : Nat) : Int) := by simp
          have hx : n8 / 2 ^ m < 18446744073709551616 := Nat.lt_of_le_of_lt (Nat.div_le_self _ _) (by omega)
          have htk := be8_take n8 i h8
          rw [hm] at htk
          have Htk := Lib.hid htk
          obtain ⟨x, hxe⟩ : ∃ x, n8 / 2 ^ m = x := ⟨_, rfl⟩
          rw [hxe] at hnat Htk
          clear htk hxe hx
          go_wp2_with (at_builtin; refine wpList_append_own _ rfl _ _ 22 rfl (B0 + 1) 5 i0 (.int .u8 0) 1 1 Try.underlying22 hi hz0 hz1 hz2 rfl (by decide) _ _ _ rfl (Hrow.out.alloc _) ⟨wr.heap.size, 0, none⟩ 1 1 [.int .u8 _] rfl rfl (cell_one_new _ _ _) (by simp [Value.oneCell']) (by unfold maxLen; omega) (by omega) (by simp; omega) ?_; intro v' w3 hown' hgrow _)
          have hlow := Hrow.out.lt
          have R1 : Row w3 B0 24 (enc8 (List.replicate 32 0)) := by
            unfold Row
            rw [hgrow.block B0 (by have := R0.out.lt; simp; omega) (fun e => by have := hlow B0 e.symm; omega)]
            exact R0.out.alloc _
          have HB1 := (HB.out.alloc (show B0 ≤ wr.heap.size by omega) (.cells #[.int .u8 ((x : Int) % 256)] 5)).grown hgrow (by simp; omega) (fun j hj => by have := (hlow j hj).1; omega)
          have hsz3 : B0 + 1 ≤ w3.heap.size := Nat.le_trans hszr (Nat.le_trans (by simp) hgrow.size)
          refine ⟨⟨i + 1, ⟨by go_num, by omega⟩, ?_, R1, HB1, hsz3⟩, by simp [intOf]; omega⟩
          rw [Htk.out, ← List.append_assoc, enc8_append]
          have e : enc8 [UInt8.ofNat x] = [Value.int .u8 ((x : Int) % 256)] := by simp [enc8]
          rw [e]
          exact hown'
        · obtain rfl : i = 8 := by omega
          have hPe : M ++ (be8 n8).take 8 = P := by
            rw [← HM.out, ← HP.out, List.take_of_length_le (by rw [be8_length]; exact Nat.le_refl _), ← hn8, ← Hz.out]; rfl
          have hPl : P.length = M.length + 8 := by rw [← hPe]; simp [be8_length]
          have hrow := Hrow.out
          rw [hPe, ← hPl] at hrow
          have hown3 : OB wr (B0 + 1) _ P := hrow
          obtain ⟨A3, c3, rfl, hd5, hd6, -⟩ := hown3.reads.form
          have HSB := Lib.hid hown3.reads
          have hPmax : P.length ≤ 200000 := by omega
          clear hPl hrow hown3 Hrow HM Hz hPe hMl hn8 e1 e2 hz64 hd1 hd2 hd3 hd4
          go_wp2_with fail
          refine (constants_any wr).mono ?_
          rintro e wa ⟨rfl, hba⟩
          have R1 := Lib.hid (R0.out.below hba R0.out.lt)
          have HB1 := Lib.hid (HB.out.trans (hba.mono (by omega)))
          have HSB1 := Lib.hid (HSB.out.below hba)
          have hsza : B0 + 1 ≤ wa.heap.size := Nat.le_trans hszr hba.size
          clear hba R0 HB HSB
          go_wp2_with fail
          refine (start_any wa).mono ?_
          rintro e wb ⟨rfl, hbb⟩
          have R0 := Lib.hid (R1.out.below hbb R1.out.lt)
          have HB := Lib.hid (HB1.out.trans (hbb.mono (by omega)))
          have HSB := Lib.hid (HSB1.out.below hbb)
          have hszb : B0 + 1 ≤ wb.heap.size := Nat.le_trans hsza hbb.size
          clear hbb R1 HB1 HSB1
          obtain ⟨B8, hB8⟩ : ∃ B8, wb.heap.size = B8 := ⟨_, rfl⟩
          have q8 : Row ((wb.alloc (.cells #[.int .u32 0, .int .u32 0, .int .u32 0, .int .u32 0, .int .u32 0, .int .u32 0, .int .u32 0, .int .u32 0, .int .u32 0, .int .u32 0, .int .u32 0, .int .u32 0, .int .u32 0, .int .u32 0, .int .u32 0, .int .u32 0, .int .u32 0, .int .u32 0, .int .u32 0, .int .u32 0, .int .u32 0, .int .u32 0, .int .u32 0, .int .u32 0, .int .u32 0, .int .u32 0, .int .u32 0, .int .u32 0, .int .u32 0, .int .u32 0, .int .u32 0, .int .u32 0, .int .u32 0, .int .u32 0, .int .u32 0, .int .u32 0, .int .u32 0, .int .u32 0, .int .u32 0, .int .u32 0, .int .u32 0, .int .u32 0, .int .u32 0, .int .u32 0, .int .u32 0, .int .u32 0, .int .u32 0, .int .u32 0, .int .u32 0, .int .u32 0, .int .u32 0, .int .u32 0, .int .u32 0, .int .u32 0, .int .u32 0, .int .u32 0, .int .u32 0, .int .u32 0, .int .u32 0, .int .u32 0, .int .u32 0, .int .u32 0, .int .u32 0, .int .u32 0] 60)).alloc (.cells #[.int .u32 0, .int .u32 0, .int .u32 0, .int .u32 0, .int .u32 0, .int .u32 0, .int .u32 0, .int .u32 0] 63)) B8 60 (encW (List.replicate 64 0)) := by
            rw [← hB8]; exact (Row.new wb _ _).alloc _
          have e9 : (wb.alloc (.cells #[.int .u32 0, .int .u32 0, .int .u32 0, .int .u32 0, .int .u32 0, .int .u32 0, .int .u32 0, .int .u32 0, .int .u32 0, .int .u32 0, .int .u32 0, .int .u32 0, .int .u32 0, .int .u32 0, .int .u32 0, .int .u32 0, .int .u32 0, .int .u32 0, .int .u32 0, .int .u32 0, .int .u32 0, .int .u32 0, .int .u32 0, .int .u32 0, .int .u32 0, .int .u32 0, .int .u32 0, .int .u32 0, .int .u32 0, .int .u32 0, .int .u32 0, .int .u32 0, .int .u32 0, .int .u32 0, .int .u32 0, .int .u32 0, .int .u32 0, .int .u32 0, .int .u32 0, .int .u32 0, .int .u32 0, .int .u32 0, .int .u32 0, .int .u32 0, .int .u32 0, .int .u32 0, .int .u32 0, .int .u32 0, .int .u32 0, .int .u32 0, .int .u32 0, .int .u32 0, .int .u32 0, .int .u32 0, .int .u32 0, .int .u32 0, .int .u32 0, .int .u32 0, .int .u32 0, .int .u32 0, .int .u32 0, .int .u32 0, .int .u32 0, .int .u32 0] 60)).heap.size = B8 + 1 := by rw [← hB8]; show (wb.heap.push _).size = _; simp
          have q9 : Row ((wb.alloc (.cells #[.int .u32 0, .int .u32 0, .int .u32 0, .int .u32 0, .int .u32 0, .int .u32 0, .int .u32 0, .int .u32 0, .int .u32 0, .int .u32 0, .int .u32 0, .int .u32 0, .int .u32 0, .int .u32 0, .int .u32 0, .int .u32 0, .int .u32 0, .int .u32 0, .int .u32 0, .int .u32 0, .int .u32 0, .int .u32 0, .int .u32 0, .int .u32 0, .int .u32 0, .int .u32 0, .int .u32 0, .int .u32 0, .int .u32 0, .int .u32 0, .int .u32 0, .int .u32 0, .int .u32 0, .int .u32 0, .int .u32 0, .int .u32 0, .int .u32 0, .int .u32 0, .int .u32 0, .int .u32 0, .int .u32 0, .int .u32 0, .int .u32 0, .int .u32 0, .int .u32 0, .int .u32 0, .int .u32 0, .int .u32 0, .int .u32 0, .int .u32 0, .int .u32 0, .int .u32 0, .int .u32 0, .int .u32 0, .int .u32 0, .int .u32 0, .int .u32 0, .int .u32 0, .int .u32 0, .int .u32 0, .int .u32 0, .int .u32 0, .int .u32 0, .int .u32 0] 60)).alloc (.cells #[.int .u32 0, .int .u32 0, .int .u32 0, .int .u32 0, .int .u32 0, .int .u32 0, .int .u32 0, .int .u32 0] 63)) (B8 + 1) 63 (encW (List.replicate 8 0)) := by
            rw [← e9]; exact Row.new _ _ _
          have qb : Below B8 wb ((wb.alloc (.cells #[.int .u32 0, .int .u32 0, .int .u32 0, .int .u32 0, .int .u32 0, .int .u32 0, .int .u32 0, .int .u32 0, .int .u32 0, .int .u32 0, .int .u32 0, .int .u32 0, .int .u32 0, .int .u32 0, .int .u32 0, .int .u32 0, .int .u32 0, .int .u32 0, .int .u32 0, .int .u32 0, .int .u32 0, .int .u32 0, .int .u32 0, .int .u32 0, .int .u32 0, .int .u32 0, .int .u32 0, .int .u32 0, .int .u32 0, .int .u32 0, .int .u32 0, .int .u32 0, .int .u32 0, .int .u32 0, .int .u32 0, .int .u32 0, .int .u32 0, .int .u32 0, .int .u32 0, .int .u32 0, .int .u32 0, .int .u32 0, .int .u32 0, .int .u32 0, .int .u32 0, .int .u32 0, .int .u32 0, .int .u32 0, .int .u32 0, .int .u32 0, .int .u32 0, .int .u32 0, .int .u32 0, .int .u32 0, .int .u32 0, .int .u32 0, .int .u32 0, .int .u32 0, .int .u32 0, .int .u32 0, .int .u32 0, .int .u32 0, .int .u32 0, .int .u32 0] 60)).alloc (.cells #[.int .u32 0, .int .u32 0, .int .u32 0, .int .u32 0, .int .u32 0, .int .u32 0, .int .u32 0, .int .u32 0] 63)) := by
            rw [← hB8]; exact ((Below.refl _ wb).alloc (Nat.le_refl _) _).alloc (by simp) _
          have q9' := q9.setRow_ne (encW KW).toArray (show B8 + 1 ≠ B8 by omega)
          have q8' := (q8.setRow (encW KW)).setRow_ne (encW SW).toArray (show B8 ≠ B8 + 1 by omega)
          have q9'' := q9'.setRow (encW SW)
          have qb' := below_setRow (below_setRow qb (Nat.le_refl B8) (encW KW).toArray) (show B8 ≤ B8 + 1 by omega) (encW SW).toArray
          have Q8 := Lib.hid q8
          have Q9 := Lib.hid q9'
          have Q8f := Lib.hid q8'
          have Q9f := Lib.hid q9''
          have QB := Lib.hid qb'
          have HB8 := Lib.hid hB8
          clear q8 e9 q9 qb q9' q8' q9'' qb' hB8
          have hlK := KW_length
          have hlS := SW_length
          obtain ⟨kw, hkw⟩ : ∃ kw, KW = kw := ⟨_, rfl⟩
          rw [hkw] at Q9 Q8f Q9f QB hlK ⊢
          obtain ⟨sw, hsw⟩ : ∃ sw, SW = sw := ⟨_, rfl⟩
          rw [hsw] at Q8f Q9f QB hlS ⊢
          have Hkw := Lib.hid hkw
          have Hsw := Lib.hid hsw
          have HlK := Lib.hid hlK
          have HlS := Lib.hid hlS
          clear hkw hsw hlK hlS
          go_wp2_with (first | (refine Q8.out.store (m := encW kw) rfl 60 (.tmp 8) (.tmp 51) rfl (by rw [← HB8.out]; rfl) rfl (by rw [encW_length, HlK.out]; kernel_rfl) (by rw [encW_length, encW_length, HlK.out, List.length_replicate]) (encW_one _) ?_) | (refine Q9.out.store (m := encW sw) rfl 63 (.tmp 9) (.tmp 52) rfl (by rw [← HB8.out]; rfl) rfl (by rw [encW_length, HlS.out]; kernel_rfl) (by rw [encW_length, encW_length, HlS.out, List.length_replicate]) (encW_one _) ?_))
          clear Q8 Q9
          simp only [Act.put]
          rw [HB8.out]
          go_loopw [3] (fun b wr => ∃ k : Nat, k ≤ N ∧ SB wb b (P.drop (64 * k)) ∧ Row wr B8 60 (encW kw) ∧ Row wr (B8 + 1) 63 (encW (sf k).list) ∧ Below B8 wb wr) (fun b _ => match b with | .slice _ n _ => n | _ => 0)
          case atStart => exact ⟨0, Nat.zero_le _, by rw [Nat.mul_zero, List.drop_zero]; exact HSB.out, Q8f.out, by rw [Hs0.out, Hsw.out]; exact Q9f.out, QB.out⟩
          case round =>
            clear Q8f Q9f QB HSB
            obtain ⟨k, hkN, hsb, hr8, hr9, hbl⟩ := hrel
            have hNN := HN.out
            have hdl : (P.drop (64 * k)).length = P.length - 64 * k := List.length_drop
            have hPm := hPmax
            by_cases hk : k < N
            · obtain ⟨n, hn⟩ : ∃ n, (P.drop (64 * k)).length = n := ⟨_, rfl⟩
              have hn64 : 64 ≤ n := by rw [← hn, hdl]; omega
              obtain ⟨A4, c4, rfl, hd7, hd8, -⟩ := hsb.form
              have hsb1 : SB wr (.slice A4 (P.drop (64 * k)).length c4) (P.drop (64 * k)) := hsb.below (by rw [HB8.out]; exact hbl)
              have hcut := hsb.cut1 64 (n - 64) (c4 - 64) (by omega) (by rw [hn]) rfl
              rw [List.drop_drop] at hcut
              have hblk := block_any (sf k) (P.drop (64 * k)) (.slice A4 (P.drop (64 * k)).length c4) B8 wr (by rw [Hkw.out]; exact hr8) hsb1 (by rw [hn]; exact hn64)
              rw [← Hsf.out k, hn] at hblk
              rw [hn] at hd7 ⊢
              have hl9 : (sf k).list.length = 8 := rfl
              have hl9' : (sf (k + 1)).list.length = 8 := rfl
              obtain ⟨st, hst⟩ : ∃ st, (sf k).list = st := ⟨_, rfl⟩
              rw [hst] at hr9 hblk hl9
              obtain ⟨st1, hst1⟩ : ∃ st1, (sf (k + 1)).list = st1 := ⟨_, rfl⟩
              rw [hst1] at hblk hl9'
              have R8 := Lib.hid hr8
              have R9 := Lib.hid hr9
              have HBl := Lib.hid hbl
              have Hblk := Lib.hid hblk
              have Hcut := Lib.hid hcut
              have L9 := Lib.hid hl9
              have L9' := Lib.hid hl9'
              have Hst1 := Lib.hid hst1
              have hr1 := fun w => slice_run1 A4 n c4 64 (by omega) 64 rfl (n - 64) (c4 - 64) rfl rfl w
              have hpos : decide (0 < n) = true := by simp; omega
              have hpos2 : 0 < n := by omega
              clear hsb hr8 hr9 hbl hblk hcut hl9 hl9' hst hst1 hsb1 hdl hn hNN hPm
              go_wp2_with (refine R9.out.load rfl 63 (.tmp 9) rfl rfl _ _ Try.underlying63 (by rw [encW_length, L9.out]; kernel_rfl) ?_)
              refine Hblk.out.mono ?_
              rintro e wc ⟨rfl, hbc⟩
              have R9c := Lib.hid (R9.out.below hbc R9.out.lt)
              have r8c := R8.out.below hbc R8.out.lt
              have R8n := Lib.hid (r8c.setRow_ne (encW st1).toArray (show B8 ≠ B8 + 1 by omega))
              have R9n := Lib.hid (R9c.out.setRow (encW st1))
              have HBn := Lib.hid (below_setRow (HBl.out.trans (hbc.mono (by have := R8.out.lt; omega))) (show B8 ≤ B8 + 1 by omega) (encW st1).toArray)
              clear Hblk hbc r8c R8 R9 HBl
              go_wp2_with (refine R9c.out.store (m := encW st1) rfl 63 (.tmp 9) (.tmp 60) rfl rfl rfl (by rw [encW_length, L9'.out]; kernel_rfl) (by rw [encW_length, encW_length, L9.out, L9'.out]) (encW_one _) ?_)
              go_roundw
              case rel => exact ⟨k + 1, by omega, Hcut.out, R8n.out, by rw [Hst1.out]; exact R9n.out, HBn.out⟩
              case measure => simp; omega
            · obtain rfl : k = N := by omega
              have hnil : P.drop (64 * k) = [] := List.drop_of_length_le (by omega)
              rw [hnil] at hsb
              obtain ⟨A4, c4, rfl, hd7, hd8, -⟩ := hsb.form
              have r0 : Row wr B0 24 (enc8 (List.replicate 32 0)) := R0.out.below hbl (by have := R0.out.lt; have := HB8.out; omega)
              have hbw := HB.out.trans (hbl.mono (show B0 ≤ B8 by have := HB8.out; omega))
              have hl9 : (sf k).list.length = 8 := rfl
              have hoe : outB (sf k) = out := Hout.out
              have hol : out.length = 32 := by rw [← hoe]; exact outB_length _
              have hget : ∀ i j, i < 8 → j < 4 → out[4 * i + j]? = some (UInt8.ofNat ((gw (sf k).list i).toNat / 2 ^ (24 - 8 * j))) := by
                intro i j hi hj; rw [← hoe]; exact outB_get _ i j hi hj
              obtain ⟨st, hst⟩ : ∃ st, (sf k).list = st := ⟨_, rfl⟩
              rw [hst] at hr9 hl9 hget
              have R0w := Lib.hid r0
              have R9 := Lib.hid hr9
              have HBw := Lib.hid hbw
              have L9 := Lib.hid hl9
              have Hol := Lib.hid hol
              have Hget := Lib.hid hget
              obtain ⟨Bo, hBo⟩ : ∃ Bo, wr.heap.size = Bo := ⟨_, rfl⟩
              have ro : Row (wr.alloc (.cells #[.int .u8 0, .int .u8 0, .int .u8 0, .int .u8 0, .int .u8 0, .int .u8 0, .int .u8 0, .int .u8 0, .int .u8 0, .int .u8 0, .int .u8 0, .int .u8 0, .int .u8 0, .int .u8 0, .int .u8 0, .int .u8 0, .int .u8 0, .int .u8 0, .int .u8 0, .int .u8 0, .int .u8 0, .int .u8 0, .int .u8 0, .int .u8 0, .int .u8 0, .int .u8 0, .int .u8 0, .int .u8 0, .int .u8 0, .int .u8 0, .int .u8 0, .int .u8 0] 24)) Bo 24 (enc8 (partB out 0)) := by
                rw [partB_zero, hol, ← hBo]; exact Row.new wr _ _
              have hB0o : B0 < Bo := by have := r0.lt; omega
              have Ro := Lib.hid ro
              have R0a := Lib.hid (r0.alloc (.cells #[.int .u8 0, .int .u8 0, .int .u8 0, .int .u8 0, .int .u8 0, .int .u8 0, .int .u8 0, .int .u8 0, .int .u8 0, .int .u8 0, .int .u8 0, .int .u8 0, .int .u8 0, .int .u8 0, .int .u8 0, .int .u8 0, .int .u8 0, .int .u8 0, .int .u8 0, .int .u8 0, .int .u8 0, .int .u8 0, .int .u8 0, .int .u8 0, .int .u8 0, .int .u8 0, .int .u8 0, .int .u8 0, .int .u8 0, .int .u8 0, .int .u8 0, .int .u8 0] 24))
              have HBa := Lib.hid (hbw.alloc (by omega) (.cells #[.int .u8 0, .int .u8 0, .int .u8 0, .int .u8 0, .int .u8 0, .int .u8 0, .int .u8 0, .int .u8 0, .int .u8 0, .int .u8 0, .int .u8 0, .int .u8 0, .int .u8 0, .int .u8 0, .int .u8 0, .int .u8 0, .int .u8 0, .int .u8 0, .int .u8 0, .int .u8 0, .int .u8 0, .int .u8 0, .int .u8 0, .int .u8 0, .int .u8 0, .int .u8 0, .int .u8 0, .int .u8 0, .int .u8 0, .int .u8 0, .int .u8 0, .int .u8 0] 24))
              have HBo := Lib.hid hBo
              have R9a := Lib.hid (hr9.alloc (.cells #[.int .u8 0, .int .u8 0, .int .u8 0, .int .u8 0, .int .u8 0, .int .u8 0, .int .u8 0, .int .u8 0, .int .u8 0, .int .u8 0, .int .u8 0, .int .u8 0, .int .u8 0, .int .u8 0, .int .u8 0, .int .u8 0, .int .u8 0, .int .u8 0, .int .u8 0, .int .u8 0, .int .u8 0, .int .u8 0, .int .u8 0, .int .u8 0, .int .u8 0, .int .u8 0, .int .u8 0, .int .u8 0, .int .u8 0, .int .u8 0, .int .u8 0, .int .u8 0] 24))
              clear hsb hr8 hr9 hbl hnil r0 hbw hl9 hoe hol hget hst ro hBo R0w R9 HBw R0 HB hdl hNN
              go_wp2_with (refine R9a.out.load rfl 63 (.tmp 9) rfl rfl _ _ Try.underlying63 (by rw [encW_length, L9.out]; kernel_rfl) ?_)
              rw [HBo.out]
              clear R9a HBo
              go_loopw [62] (fun q wx => ∃ i : Nat, (q = .int .i64 (i : Int) ∧ i ≤ 8) ∧ Row wx Bo 24 (enc8 (partB out (4 * i))) ∧ Row wx B0 24 (enc8 (List.replicate 32 0)) ∧ Below B0 w wx) (fun q _ => 8 - (intOf q).toNat)
              case atStart => exact ⟨0, ⟨rfl, by omega⟩, Ro.out, R0a.out, HBa.out⟩
              case round =>
                clear Ro R0a HBa
                obtain ⟨i, ⟨rfl, hi8⟩, hro, hr0, hb⟩ := hrel
                have Ro := Lib.hid hro
                have R0 := Lib.hid hr0
                have HB := Lib.hid hb
                clear hro hr0 hb
                by_cases hi : i < 8
                · have kx := fun w => run_index_array 63 56 8 (encW st) i _ Try.underlying63 Try.sizeOf56 Try.isAgg56 (by rw [encW_length, L9.out]) (encW_get st i (by rw [L9.out]; exact hi)) w
                  have hg4 := fun j hj => Hget.out i j hi hj
                  obtain ⟨x, hx⟩ : ∃ x, gw st i = x := ⟨_, rfl⟩
                  rw [hx] at kx
                  simp only [hx] at hg4
                  have Hg4 := Lib.hid hg4
                  clear hg4 hx
                  go_wp2
                  go_loopw [66] (fun q wx => ∃ j : Nat, (q = .int .i64 (j : Int) ∧ j ≤ 4) ∧ Row wx Bo 24 (enc8 (partB out (4 * i + j))) ∧ Row wx B0 24 (enc8 (List.replicate 32 0)) ∧ Below B0 w wx) (fun q _ => 4 - (intOf q).toNat)
                  case atStart => exact ⟨0, ⟨rfl, by omega⟩, Ro.out, R0.out, HB.out⟩
                  case round =>
                    clear Ro R0 HB
                    obtain ⟨j, ⟨rfl, hj4⟩, hro, hr0, hb⟩ := hrel
                    by_cases hj : j < 4
                    · obtain ⟨m, hm⟩ : ∃ m, 24 - 8 * j = m := ⟨_, rfl⟩
                      have hgj := Hg4.out j hj
                      rw [hm] at hgj
                      have s1 : IntKind.i64.wrap (24 - 8 * (j : Int)) = (m : Int) := by rw [IntWalk.i64_in _ (by omega)]; omega
                      have s2 : IntKind.i64.wrap (8 * (j : Int)) = 8 * (j : Int) := IntWalk.i64_in _ (by omega)
                      have s3 : (m : Int) ≤ 32 := by omega
                      have s4 : IntKind.i64.wrap (4 * (i : Int)) = 4 * (i : Int) := IntWalk.i64_in _ (by omega)
                      obtain ⟨e, he⟩ : ∃ e, 4 * i + j = e := ⟨_, rfl⟩
                      have s5 : IntKind.i64.wrap (4 * (i : Int) + (j : Int)) = (e : Int) := by rw [IntWalk.i64_in _ (by omega)]; omega
                      have hnat : (x.toNat : Int) / 2 ^ m = ((x.toNat / 2 ^ m : Nat) : Int) := by simp
                      obtain ⟨y, hy⟩ : ∃ y, x.toNat / 2 ^ m = y := ⟨_, rfl⟩
                      rw [hy] at hnat hgj
                      rw [he] at hgj hro
                      have he32 : e < 32 := by omega
                      have hpl : (enc8 (partB out e)).length = 32 := by rw [enc8_len, partB_length _ _ (by rw [Hol.out]; omega), Hol.out]
                      have k0 : wr.cell? ⟨Bo, e, none⟩ = some ((enc8 (partB out e))[e]'(by omega)) := by rw [hro.cell e]; exact List.getElem?_eq_getElem _
                      have k1 : wr.frozen? ⟨Bo, e, none⟩ = false := hro.frozen e
                      obtain ⟨old, hold⟩ : ∃ old, (enc8 (partB out e))[e]'(by omega) = old := ⟨_, rfl⟩
                      rw [hold] at k0
                      have hset := hro.set e (.int .u8 ((y : Int) % 256))
                      have ev : Value.int .u8 ((y : Int) % 256) = .int .u8 ((UInt8.ofNat y).toNat : Int) := by simp
                      rw [ev, enc8_set, partB_set _ _ _ hgj, ← ev] at hset
                      have Rs := Lib.hid hset
                      have R0s := Lib.hid (hr0.other ⟨Bo, e, none⟩ (.int .u8 ((y : Int) % 256)) (by simp; omega))
                      have HBs := Lib.hid (below_setCell hb ⟨Bo, e, none⟩ (by simp; omega) (.int .u8 ((y : Int) % 256)))
                      have He := Lib.hid he
                      clear hro hr0 hb hset ev hold hpl hgj hy he hm
                      go_wp2
                      go_roundw
                      case rel => exact ⟨j + 1, ⟨by go_num, by omega⟩, by rw [show 4 * i + (j + 1) = e + 1 by have := He.out; omega]; exact Rs.out, R0s.out, HBs.out⟩
                      case measure => simp [intOf]; omega
                    · obtain rfl : j = 4 := by omega
                      have Ro := Lib.hid hro
                      have R0 := Lib.hid hr0
                      have HB := Lib.hid hb
                      clear hro hr0 hb
                      go_wp2
                      go_roundw
                      case rel => exact ⟨i + 1, ⟨by go_num, by omega⟩, by rw [show 4 * (i + 1) = 4 * i + 4 by omega]; exact Ro.out, R0.out, HB.out⟩
                      case measure => simp [intOf]; omega
                · obtain rfl : i = 8 := by omega
                  have Ro1 : Hid (Row wr Bo 24 (enc8 out)) := by
                    have := Ro.out
                    have e : partB out (4 * 8) = out := by have := partB_all out; rwa [Hol.out] at this
                    rwa [e] at this
                  have RR := Lib.hid (R0.out.setRow (enc8 out))
                  have HBz := Lib.hid (below_setRow HB.out (Nat.le_refl B0) (enc8 out).toArray)
                  clear Ro HB
                  go_wp2_with (first | (refine Ro1.out.load rfl 24 (.tmp 10) rfl rfl _ _ Try.underlying24 (by rw [enc8_len, Hol.out]; kernel_rfl) ?_) | (refine R0.out.store (m := enc8 out) rfl 24 (.tmp 2) (.tmp 82) rfl rfl rfl (by rw [enc8_len, Hol.out]; kernel_rfl) (by rw [enc8_len, enc8_len, Hol.out, List.length_replicate]) (enc8_all _) ?_))
                  refine bodyPost_ret (v := .agg (enc8 out).toArray) (RR.out.result Try.results17 _ _ _ rfl Try.underlying24 (by rw [enc8_len, Hol.out]; kernel_rfl)) rfl ?_
                  exact ⟨rfl, by rw [hB0]; exact HBz.out⟩
/-- **digest.Join** -/
theorem join_any (v : Value) (ls : List (List UInt8)) (w : World) (hv : SS w v ls) (hmax : ls.flatten.length ≤ 100000) :
    Calls Try.prog 17 #[v] w fun e w' => e = .returned (.agg (enc8 (sumL ls.flatten)).toArray) ∧ Below w.heap.size w w' :=
  join_gen v ls w hv ls.flatten (pad ls.flatten) rfl rfl hmax (comp (pad ls.flatten)) SW_s0.symm (fun _ => rfl) ((pad ls.flatten).length / 64) (by have := pad_mod ls.flatten; omega) _ rfl
end Go.Proofs.Ytkipnhhdlohnfaa

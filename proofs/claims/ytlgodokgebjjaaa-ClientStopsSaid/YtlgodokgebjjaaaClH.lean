/- client.Exchange. -/
import Derived.RangeFuncNested
import Derived.RangeFuncBound
import Derived.RangeFuncCalls
import Derived.RangeFuncLeaves
import Derived.Shelf.Abstract
import Derived.Shelf.RegionOpen
import Derived.WalkKit
import Derived.OwnWalkIn
import Derived.TacticsInMore
import Derived.LoopNIn
import Derived.LoopIn
import Derived.Outline
import Derived.Lib.Hide
import Derived.Lib.SliceRun
import Derived.IntWalk
import Derived.WalkLawsBesides
import Derived.WalkSpells
import Derived.Laws.BitsAllLaws
import Derived.Lib.ConvBytes
import Derived.Maps.AppendAt
import Derived.Lib.AppendStr
import Derived.Lib.SlBytesConst
import Derived.Laws.AppendOwnNone
import Derived.Laws.OwnMore
import Derived.Laws.BytesArg
import Derived.Deep.RegionHeld3
import Derived.BigQuiet
import Derived.Deep.RegionLaw
import Derived.Deep.QuietTactic
import Derived.Lib.OthersKept
import Derived.Test.YtlgodokgebjjaaaProg
import Derived.Deep.DeepFit
import Derived.Laws.EntriesVeiled
import Derived.Test.YtlgodokgebjjaaaClJ
set_option linter.unusedVariables false
set_option linter.unusedSimpArgs false
namespace Go.Proofs.Ytlgodokgebjjaaa
open Go Go.RowKit Go.Shelf
open Go.Proofs (encStr)
attribute [local go_sem] Oper.semAt_some

theorem results_cells2 {fn : Func} {p q : Tmp} (h : fn.results = #[.cell p 22, .cell q 3]) (tmps : Array Value) {w : World} {B C : Nat} {A : Option Addr} {n c : Nat} {i : Int} (hp : tmps.getD p undef = .pointer (some ⟨B, 0, none⟩)) (hq : tmps.getD q undef = .pointer (some ⟨C, 0, none⟩)) (hb : Boxed w B 22 (.slice A n c)) (hc : Boxed w C 3 (.int .i64 i)) :
    (results fn tmps).run Try.prog w = .ok (.tuple #[.slice A n c, .int .i64 i]) w := by
  have c1 := hb.cell
  have c2 := hc.cell
  have hp' : tmps[p]?.getD undef = .pointer (some ⟨B, 0, none⟩) := by rw [← Array.getD_eq_getD_getElem?]; exact hp
  have hq' : tmps[q]?.getD undef = .pointer (some ⟨C, 0, none⟩) := by rw [← Array.getD_eq_getD_getElem?]; exact hq
  simp [results, h, hp', hq', go_sem, c1, c2, Result.andThen]
theorem boxed_belowN {W W' : World} {B : Nat} {t : TypeId} {v : Value} (h : Boxed W B t v) (hb : Below W.heap.size W W') : Boxed W' B t v := boxed_below h hb
theorem stuffL_pos (l : List UInt8) : 0 < (stuffL l).length := by
  rw [← preS_all l, List.length_append]; simp
theorem rep_false (n i : Nat) : (Array.replicate n false).getD i false = false := by
  rw [Array.getD_eq_getD_getElem?, Array.getElem?_replicate]; split <;> rfl
theorem rep_true (n i : Nat) (h : i < n) : (Array.replicate n false).getD i true = false := by
  rw [Array.getD_eq_getD_getElem?, Array.getElem?_replicate, if_pos h]; rfl
set_option maxRecDepth 100000 in
set_option maxHeartbeats 16000000 in
theorem exchange_good (h f r : ByteArray) (vb vm : Value) (b m : List UInt8) (w : World) (hml : ML w) (hh : h.size ≤ 1000) (hf : f.size ≤ 1000) (hr : r.size ≤ 1000) (hbl : b.length ≤ 100000) (hmm : m.length ≤ 1000000) (hb : SB w vb b) (hm : SB w vm m) (hk : okE (bl h) (bl f) (bl r) = true) :
    Calls Try.prog 15 #[.string h, .string f, .string r, vb, vm] w fun e w' => ∃ u, e = .returned (.tuple #[u, .int .i64 ((exL (bl h) (bl f) (bl r) b m).2 : Int)]) ∧ OB w' w.heap.size u (exL (bl h) (bl f) (bl r) b m).1 ∧ Below w.heap.size w w' := by
  obtain ⟨Ab, cb, rfl, -, -, -⟩ := hb.form
  obtain ⟨Am, cm, rfl, -, -, -⟩ := hm.form
  obtain ⟨nb, hnb⟩ : ∃ n, b.length = n := ⟨_, rfl⟩
  obtain ⟨nm, hnm⟩ : ∃ n, m.length = n := ⟨_, rfl⟩
  have hd := fun w => domain_any h (by unfold maxLen; omega) w
  have hf2 := fun w => mailbox_any f (by unfold maxLen; omega) w
  have hr2 := fun w => mailbox_any r (by unfold maxLen; omega) w
  have he : (f.toList == []) = (bl f).isEmpty := by rw [toList_bl]; cases bl f <;> rfl
  have he2 : f.toList.isEmpty = (bl f).isEmpty := by rw [toList_bl]
  have hR0 : exL (bl h) (bl f) (bl r) b m = exc (stepsL (bl h) (bl f) (bl r) b) (rps m) [] := by unfold exL; rw [if_pos hk]
  unfold okE at hk
  obtain ⟨q0, h0⟩ : ∃ q, domB (bl h) = q := ⟨_, rfl⟩
  obtain ⟨q1, h1⟩ : ∃ q, (bl f).isEmpty = q := ⟨_, rfl⟩
  obtain ⟨q2, h2⟩ : ∃ q, mailB (bl f) = q := ⟨_, rfl⟩
  obtain ⟨q3, h3⟩ : ∃ q, mailB (bl r) = q := ⟨_, rfl⟩
  simp only [h0] at hd hk
  simp only [h1] at he he2 hk
  simp only [h2] at hf2 hk
  simp only [h3] at hr2 hk
  obtain ⟨E0, hE0⟩ : ∃ e, ehloL (bl h) = e := ⟨_, rfl⟩
  obtain ⟨E1, hE1⟩ : ∃ e, mailL (bl f) = e := ⟨_, rfl⟩
  obtain ⟨E2, hE2⟩ : ∃ e, rcptL (bl r) = e := ⟨_, rfl⟩
  obtain ⟨E4, hE4⟩ : ∃ e, stuffL b = e := ⟨_, rfl⟩
  have hst := hR0
  unfold stepsL at hst
  rw [hE0, hE1, hE2, hE4] at hst
  obtain ⟨R, hR⟩ : ∃ R, exL (bl h) (bl f) (bl r) b m = R := ⟨_, rfl⟩
  rw [hR] at hst ⊢
  have l0 : E0.length ≤ 10000 := by rw [← hE0]; unfold ehloL; simp [bl_len]; omega
  have l1 : E1.length ≤ 10000 := by rw [← hE1]; unfold mailL; simp [bl_len]; omega
  have l2 : E2.length ≤ 10000 := by rw [← hE2]; unfold rcptL; simp [bl_len]; omega
  have l4 : E4.length ≤ 300000 := by rw [← hE4]; have := stuffL_len b; omega
  obtain ⟨EF, hEF⟩ : ∃ EF : Nat → List UInt8, (fun k => [E0, E1, E2, dataL, E4, quitL].getD k []) = EF := ⟨_, rfl⟩
  have f0 : EF 0 = E0 := by rw [← hEF]; rfl
  have f1 : EF 1 = E1 := by rw [← hEF]; rfl
  have f2 : EF 2 = E2 := by rw [← hEF]; rfl
  have f3 : EF 3 = dataL := by rw [← hEF]; rfl
  have f4 : EF 4 = E4 := by rw [← hEF]; rfl
  have f5 : EF 5 = quitL := by rw [← hEF]; rfl
  have HSE0 : Hid (([[69, 72, 76, 79, 32], bl h] : List (List UInt8)).flatten ++ [13, 10] = EF 0) := by show _ = _; rw [f0, ← hE0]; simp [ehloL]
  have HSE1 : Hid (([[77, 65, 73, 76, 32, 70, 82, 79, 77, 58], bl (⟨#[60]⟩ ++ f ++ ⟨#[62]⟩)] : List (List UInt8)).flatten ++ [13, 10] = EF 1) := by show _ = _; rw [f1, ← hE1, bl_append, bl_append]; simp [mailL, bl]
  have HSE2 : Hid (([[82, 67, 80, 84, 32, 84, 79, 58], bl (⟨#[60]⟩ ++ r ++ ⟨#[62]⟩)] : List (List UInt8)).flatten ++ [13, 10] = EF 2) := by show _ = _; rw [f2, ← hE2, bl_append, bl_append]; simp [rcptL, bl]
  have HSE3 : Hid (([[68, 65, 84, 65]] : List (List UInt8)).flatten ++ [13, 10] = EF 3) := by show _ = _; rw [f3]; rfl
  have HSE5 : Hid (([[81, 85, 73, 84]] : List (List UInt8)).flatten ++ [13, 10] = EF 5) := by show _ = _; rw [f5]; rfl
  have HSZ0 : Hid ((([[69, 72, 76, 79, 32], bl h] : List (List UInt8)).flatten).length ≤ 1000000) := by show _ ≤ _; simp [bl_len]; omega
  have HSZ1 : Hid ((([[77, 65, 73, 76, 32, 70, 82, 79, 77, 58], bl (⟨#[60]⟩ ++ f ++ ⟨#[62]⟩)] : List (List UInt8)).flatten).length ≤ 1000000) := by show _ ≤ _; rw [bl_append, bl_append]; have z1 : (⟨#[60]⟩ : ByteArray).size = 1 := rfl; have z2 : (⟨#[62]⟩ : ByteArray).size = 1 := rfl; simp [bl_len, z1, z2]; omega
  have HSZ2 : Hid ((([[82, 67, 80, 84, 32, 84, 79, 58], bl (⟨#[60]⟩ ++ r ++ ⟨#[62]⟩)] : List (List UInt8)).flatten).length ≤ 1000000) := by show _ ≤ _; rw [bl_append, bl_append]; have z1 : (⟨#[60]⟩ : ByteArray).size = 1 := rfl; have z2 : (⟨#[62]⟩ : ByteArray).size = 1 := rfl; simp [bl_len, z1, z2]; omega
  have HSZ3 : Hid ((([[68, 65, 84, 65]] : List (List UInt8)).flatten).length ≤ 1000000) := by show _ ≤ _; simp
  have HSZ5 : Hid ((([[81, 85, 73, 84]] : List (List UInt8)).flatten).length ≤ 1000000) := by show _ ≤ _; simp
  obtain ⟨st, hst0⟩ : ∃ st : List Step, [⟨E0, 220, 220⟩, ⟨E1, 250, 250⟩, ⟨E2, 250, 250⟩, ⟨dataL, 250, 251⟩, ⟨E4, 354, 354⟩, ⟨quitL, 250, 250⟩] = st := ⟨_, rfl⟩
  rw [hst0] at hst
  have hdr : ∀ k, k < 6 → st.drop k = ⟨EF k, loF k, hiF k⟩ :: st.drop (k + 1) := fun k hk => by
    rcases (by omega : k = 0 ∨ k = 1 ∨ k = 2 ∨ k = 3 ∨ k = 4 ∨ k = 5) with rfl | rfl | rfl | rfl | rfl | rfl
    · rw [f0, ← hst0]; rfl
    · rw [f1, ← hst0]; rfl
    · rw [f2, ← hst0]; rfl
    · rw [f3, ← hst0]; rfl
    · rw [f4, ← hst0]; rfl
    · rw [f5, ← hst0]; rfl
  have hd6 : st.drop 6 = [] := by rw [← hst0]; rfl
  have HDR := Lib.hid hdr
  have HD6 := Lib.hid hd6
  have hl6 : ∀ k, k < 6 → (EF k).length ≤ 300000 := fun k hk => by
    rcases (by omega : k = 0 ∨ k = 1 ∨ k = 2 ∨ k = 3 ∨ k = 4 ∨ k = 5) with rfl | rfl | rfl | rfl | rfl | rfl
    · rw [f0]; omega
    · rw [f1]; omega
    · rw [f2]; omega
    · rw [f3]; decide
    · rw [f4]; omega
    · rw [f5]; decide
  have HL6 := Lib.hid hl6
  have HEPP : Hid (∀ k, k < 6 → 0 < (EF k).length) := fun k hk => by
    rcases (by omega : k = 0 ∨ k = 1 ∨ k = 2 ∨ k = 3 ∨ k = 4 ∨ k = 5) with rfl | rfl | rfl | rfl | rfl | rfl
    · rw [f0, ← hE0]; simp [ehloL]
    · rw [f1, ← hE1]; simp [mailL]
    · rw [f2, ← hE2]; simp [rcptL]
    · rw [f3]; decide
    · rw [f4, ← hE4]; exact stuffL_pos b
    · rw [f5]; decide
  have HE4 : Hid (stuffL b = EF 4) := by show _ = _; rw [f4, hE4]
  have HQL := Lib.hid f5
  have HST : Hid (exc (st.drop 0) (rps m) [] = R) := hst.symm
  have HNB := Lib.hid (hnb ▸ hbl)
  have HMM := Lib.hid hmm
  have HB := Lib.hid hb
  have HM := Lib.hid hm
  have HML := Lib.hid hml
  have HNM := Lib.hid hnm
  have HNBE := Lib.hid hnb
  rw [hnb] at HB ⊢
  rw [hnm] at HM ⊢
  have HD := Lib.hid hd
  have HF := Lib.hid hf2
  have HR := Lib.hid hr2
  obtain rfl : q0 = true := by revert hk; cases q0 <;> simp
  obtain rfl : q3 = true := by revert hk; cases q3 <;> simp
  clear hd hf2 hr2 hb hm hml hnb hnm h0 h1 h2 h3 hR0 hst hst0 hE0 hE1 hE2 hE4 hR hEF f0 f1 f2 f3 f4 f5 l0 l1 l2 l4 hl6 hmm hbl hdr hd6
  cases q1 with
  | true =>
    clear hk
    refine (callsIn_wide (n := 0)).1 ?_
    refine callsIn_of_wp_marks Try.func15 rfl trivial ?_
    simp only [Try.ntmps15, List.size_toArray, List.length_cons, List.length_nil, Nat.reduceAdd, Nat.reduceSub, Array.replicate_succ, Array.replicate_zero, List.push_toArray, List.append_toArray, List.nil_append, List.cons_append]
    gi_wp2_with fail
    refine ⟨trivial, rfl, (callsIn_wide.2 (HD.out _)).mono ?_⟩
    rintro e w1 ⟨rfl, b1⟩
    have c2 := b1
    clear b1
    gi_wp2_with fail
    refine ⟨trivial, ?_⟩
    gi_wp2_with fail
    refine ⟨trivial, rfl, (callsIn_wide.2 (HR.out _)).mono ?_⟩
    rintro e w4 ⟨rfl, b4⟩
    have c4 := c2.trans (b4.mono c2.size)
    clear b4 c2
    gi_wp2_with fail
    refine wpIn_wide.2 ?_
    refine wp_gen ?_
    intro a0 W5 ha0 hW5
    have hsz : a0.tmps.size = 99 := by rw [ha0]; rfl
    have ev0 : a0.eval (.tmp 0) = .string h := by rw [ha0]; rfl
    have ev1 : a0.eval (.tmp 1) = .string f := by rw [ha0]; rfl
    have ev2 : a0.eval (.tmp 2) = .string r := by rw [ha0]; rfl
    have ev3 : a0.eval (.tmp 3) = .slice Ab nb cb := by rw [ha0]; rfl
    have ev13 : a0.eval (.tmp 13) = .pointer (some ⟨w4.heap.size + 1, 0, none⟩) := by rw [ha0]; rfl
    have hB13 : Boxed W5 (w4.heap.size + 1) 48 FN := by
      have := Boxed.new (w4.alloc (.cells #[.slice none 0 0] 22)) 48 FN
      rw [alloc_size] at this
      rw [hW5]
      exact this
    have hB12 : Boxed W5 w4.heap.size 22 (.slice none 0 0) := by rw [hW5]; exact (Boxed.new w4 22 (.slice none 0 0)).alloc _
    have hb2 : Below w.heap.size w ((w.alloc (.cells #[.slice none 0 0] 22)).alloc (.cells #[.int .i64 0] 3)) := ((Below.refl _ w).alloc (Nat.le_refl _) _).alloc (by simp) _
    have hs2 : ((w.alloc (.cells #[.slice none 0 0] 22)).alloc (.cells #[.int .i64 0] 3)).heap.size = w.heap.size + 2 := by rw [alloc_size, alloc_size]
    have hB10 : Boxed w4 w.heap.size 22 (.slice none 0 0) := (c4.block w.heap.size (by rw [hs2]; omega)).trans ((Boxed.new w 22 (.slice none 0 0)).alloc (.cells #[.int .i64 0] 3))
    have hB11 : Boxed w4 (w.heap.size + 1) 3 (.int .i64 0) := by
      have := Boxed.new (w.alloc (.cells #[.slice none 0 0] 22)) 3 (.int .i64 0)
      rw [alloc_size] at this
      exact (c4.block (w.heap.size + 1) (by rw [hs2]; omega)).trans this
    have hs4 : w.heap.size + 2 ≤ w4.heap.size := by rw [← hs2]; exact c4.size
    have hw4 : Below w.heap.size w w4 := hb2.trans (c4.mono (by rw [hs2]; omega))
    have h45 : Below w4.heap.size w4 W5 := by rw [hW5]; exact ((Below.refl _ _).alloc (Nat.le_refl _) _).alloc (by simp) _
    have hWm : Below w.heap.size w W5 := hw4.trans (h45.mono (by omega))
    have hs5 : W5.heap.size = w4.heap.size + 2 := by rw [hW5, alloc_size, alloc_size]
    have HB10 := Lib.hid (boxed_below hB10 h45)
    have HB11 := Lib.hid (boxed_below hB11 h45)
    have HB12 := Lib.hid hB12
    have HB13 := Lib.hid hB13
    have HA0 := Lib.hid ha0
    clear hB10 hB11 hB12 hB13 hb2 hs2 c4 hw4 h45 ha0 hW5
    refine wp_region_inv (P := Try.prog) (by kernel_rfl) (by kernel_rfl) (InvX ⟨h, f, r, .slice Ab nb cb, EF, 0⟩ W5.heap.size W5 a0) ?h0 ?hdone ?hstep
    case h0 => exact ⟨_, (mkA_self a0 DS).symm, rfl, (Mine.refl W5).drew, fun _ i hi h => absurd ((rep_false _ _).symm.trans h) (by decide), fun h => absurd ((rep_true _ 30 (by decide)).symm.trans h) (by decide)⟩
    case hstep =>
      intro listed a1 w1 i o ⟨x, hx, hs, hm, hR0, hF0⟩ ho hl hw
      subst hx
      have hi31 : i < 31 := (Array.getElem?_eq_some_iff.1 ho).1
      have h30 : listed.getD 30 true = false := by
        cases h : listed.getD 30 true with
        | false => rfl
        | true => have := (hF0 h).2 i hi31; rw [hl] at this; cases this
      have hR := hR0 h30
      have hB13 := boxed_below HB13.out hm.bel
      clear hR0 hF0
      rcases (by omega : i = 0 ∨ i = 1 ∨ i = 2 ∨ i = 3 ∨ i = 4 ∨ i = 5 ∨ i = 6 ∨ i = 7 ∨ i = 8 ∨ i = 9 ∨ i = 10 ∨ i = 11 ∨ i = 12 ∨ i = 13 ∨ i = 14 ∨ i = 15 ∨ i = 16 ∨ i = 17 ∨ i = 18 ∨ i = 19 ∨ i = 20 ∨ i = 21 ∨ i = 22 ∨ i = 23 ∨ i = 24 ∨ i = 25 ∨ i = 26 ∨ i = 27 ∨ i = 28 ∨ i = 29 ∨ i = 30) with rfl | rfl | rfl | rfl | rfl | rfl | rfl | rfl | rfl | rfl | rfl | rfl | rfl | rfl | rfl | rfl | rfl | rfl | rfl | rfl | rfl | rfl | rfl | rfl | rfl | rfl | rfl | rfl | rfl | rfl | rfl
      · obtain rfl := Option.some.inj ho
        clear ho hl
        refine wpOp_value rfl rfl (x_load w1 _ _ _ _ _ rfl ((mkA_evalN a0 DS x 13 (by decide)).trans ev13) hB13) (InvX.put hs hm h30 hR 0 (by decide) 34 rfl _ (Below.refl _ _) (rfl))
      · obtain rfl := Option.some.inj ho
        clear ho hl
        refine wpOp_value rfl rfl (x_move w1 _ _ _ _ rfl ((mkA_evalN a0 DS x 0 (by decide)).trans ev0)) (InvX.put hs hm h30 hR 1 (by decide) 35 rfl _ (Below.refl _ _) (rfl))
      · obtain rfl := Option.some.inj ho
        clear ho hl
        have r1 := hR 1 (by decide) (hw ⟨1, .data⟩ (by simp) rfl)
        change Rl _ _ 1 (x 35) _ at r1
        refine wpOp_value rfl rfl (x_texts2 w1 _ _ _ _ ⟨#[69, 72, 76, 79, 32]⟩ _ rfl rfl ((evS (X := ⟨h, f, r, .slice Ab nb cb, EF, 0⟩) a0 x 35 (by decide) hsz (by decide)).trans r1)) (InvX.put hs hm h30 hR 2 (by decide) 36 rfl _ ((Below.refl _ _).alloc (Nat.le_refl _) _) (TS_lit2 w1 _ _))
      · obtain rfl := Option.some.inj ho
        clear ho hl
        have r0 := hR 0 (by decide) (hw ⟨0, .data⟩ (by simp) rfl)
        change Rl _ _ 0 (x 34) _ at r0
        have r2 := hR 2 (by decide) (hw ⟨2, .data⟩ (by simp) rfl)
        change Rl _ _ 2 (x 36) _ at r2
        refine wpOp_enter rfl rfl (x_say w1 _ _ _ _ _ _ rfl ((evS (X := ⟨h, f, r, .slice Ab nb cb, EF, 0⟩) a0 x 34 (by decide) hsz (by decide)).trans r0) (evS (X := ⟨h, f, r, .slice Ab nb cb, EF, 0⟩) a0 x 36 (by decide) hsz (by decide))) ?_
        refine (say_any _ _ w1 HSZ0.out r2).mono ?_
        rintro e w2 ⟨u, rfl, ho, hb⟩
        rw [HSE0.out] at ho
        exact ⟨u, rfl, InvX.put hs hm h30 hR 3 (by decide) 37 rfl _ hb (OB.mono ho hm.le)⟩
      · obtain rfl := Option.some.inj ho
        clear ho hl
        have r3 := hR 3 (by decide) (hw ⟨3, .data⟩ (by simp) rfl)
        change Rl _ _ 3 (x 37) _ at r3
        have f3 := OB.form_slice r3
        refine wpOp_value rfl rfl (x_step w1 _ _ _ 220 220 _ rfl (evS (X := ⟨h, f, r, .slice Ab nb cb, EF, 0⟩) a0 x 37 (by decide) hsz (by decide)) rfl rfl f3) (InvX.put hs hm h30 hR 4 (by decide) 38 rfl _ (Below.refl _ _) ⟨_, rfl, r3⟩)
      · obtain rfl := Option.some.inj ho
        clear ho hl
        refine wpOp_value rfl rfl (x_load w1 _ _ _ _ _ rfl ((mkA_evalN a0 DS x 13 (by decide)).trans ev13) hB13) (InvX.put hs hm h30 hR 5 (by decide) 39 rfl _ (Below.refl _ _) (rfl))
      · obtain rfl := Option.some.inj ho
        clear ho hl
        refine wpOp_value rfl rfl (x_move w1 _ _ _ _ rfl ((mkA_evalN a0 DS x 1 (by decide)).trans ev1)) (InvX.put hs hm h30 hR 6 (by decide) 40 rfl _ (Below.refl _ _) (rfl))
      · obtain rfl := Option.some.inj ho
        clear ho hl
        have r6 := hR 6 (by decide) (hw ⟨6, .data⟩ (by simp) rfl)
        change Rl _ _ 6 (x 40) _ at r6
        refine wpOp_enter rfl rfl (x_fun w1 _ _ 42 _ _ _ rfl rfl ((evS (X := ⟨h, f, r, .slice Ab nb cb, EF, 0⟩) a0 x 40 (by decide) hsz (by decide)).trans r6) (enters_of Try.func42 (by kernel_rfl) rfl)) ?_
        refine (show_any f (by omega) w1).mono ?_
        rintro e w2 ⟨rfl, rfl⟩
        exact ⟨_, rfl, InvX.put hs hm h30 hR 7 (by decide) 41 rfl _ (Below.refl _ _) rfl⟩
      · obtain rfl := Option.some.inj ho
        clear ho hl
        have r7 := hR 7 (by decide) (hw ⟨7, .data⟩ (by simp) rfl)
        change Rl _ _ 7 (x 41) _ at r7
        refine wpOp_value rfl rfl (x_texts2 w1 _ _ _ _ ⟨#[77, 65, 73, 76, 32, 70, 82, 79, 77, 58]⟩ _ rfl rfl ((evS (X := ⟨h, f, r, .slice Ab nb cb, EF, 0⟩) a0 x 41 (by decide) hsz (by decide)).trans r7)) (InvX.put hs hm h30 hR 8 (by decide) 42 rfl _ ((Below.refl _ _).alloc (Nat.le_refl _) _) (TS_lit2 w1 _ _))
      · obtain rfl := Option.some.inj ho
        clear ho hl
        have r5 := hR 5 (by decide) (hw ⟨5, .data⟩ (by simp) rfl)
        change Rl _ _ 5 (x 39) _ at r5
        have r8 := hR 8 (by decide) (hw ⟨8, .data⟩ (by simp) rfl)
        change Rl _ _ 8 (x 42) _ at r8
        refine wpOp_enter rfl rfl (x_say w1 _ _ _ _ _ _ rfl ((evS (X := ⟨h, f, r, .slice Ab nb cb, EF, 0⟩) a0 x 39 (by decide) hsz (by decide)).trans r5) (evS (X := ⟨h, f, r, .slice Ab nb cb, EF, 0⟩) a0 x 42 (by decide) hsz (by decide))) ?_
        refine (say_any _ _ w1 HSZ1.out r8).mono ?_
        rintro e w2 ⟨u, rfl, ho, hb⟩
        rw [HSE1.out] at ho
        exact ⟨u, rfl, InvX.put hs hm h30 hR 9 (by decide) 43 rfl _ hb (OB.mono ho hm.le)⟩
      · obtain rfl := Option.some.inj ho
        clear ho hl
        have r9 := hR 9 (by decide) (hw ⟨9, .data⟩ (by simp) rfl)
        change Rl _ _ 9 (x 43) _ at r9
        have f9 := OB.form_slice r9
        refine wpOp_value rfl rfl (x_step w1 _ _ _ 250 250 _ rfl (evS (X := ⟨h, f, r, .slice Ab nb cb, EF, 0⟩) a0 x 43 (by decide) hsz (by decide)) rfl rfl f9) (InvX.put hs hm h30 hR 10 (by decide) 44 rfl _ (Below.refl _ _) ⟨_, rfl, r9⟩)
      · obtain rfl := Option.some.inj ho
        clear ho hl
        refine wpOp_value rfl rfl (x_load w1 _ _ _ _ _ rfl ((mkA_evalN a0 DS x 13 (by decide)).trans ev13) hB13) (InvX.put hs hm h30 hR 11 (by decide) 45 rfl _ (Below.refl _ _) (rfl))
      · obtain rfl := Option.some.inj ho
        clear ho hl
        refine wpOp_value rfl rfl (x_move w1 _ _ _ _ rfl ((mkA_evalN a0 DS x 2 (by decide)).trans ev2)) (InvX.put hs hm h30 hR 12 (by decide) 46 rfl _ (Below.refl _ _) (rfl))
      · obtain rfl := Option.some.inj ho
        clear ho hl
        have r12 := hR 12 (by decide) (hw ⟨12, .data⟩ (by simp) rfl)
        change Rl _ _ 12 (x 46) _ at r12
        refine wpOp_enter rfl rfl (x_fun w1 _ _ 42 _ _ _ rfl rfl ((evS (X := ⟨h, f, r, .slice Ab nb cb, EF, 0⟩) a0 x 46 (by decide) hsz (by decide)).trans r12) (enters_of Try.func42 (by kernel_rfl) rfl)) ?_
        refine (show_any r (by omega) w1).mono ?_
        rintro e w2 ⟨rfl, rfl⟩
        exact ⟨_, rfl, InvX.put hs hm h30 hR 13 (by decide) 47 rfl _ (Below.refl _ _) rfl⟩
      · obtain rfl := Option.some.inj ho
        clear ho hl
        have r13 := hR 13 (by decide) (hw ⟨13, .data⟩ (by simp) rfl)
        change Rl _ _ 13 (x 47) _ at r13
        refine wpOp_value rfl rfl (x_texts2 w1 _ _ _ _ ⟨#[82, 67, 80, 84, 32, 84, 79, 58]⟩ _ rfl rfl ((evS (X := ⟨h, f, r, .slice Ab nb cb, EF, 0⟩) a0 x 47 (by decide) hsz (by decide)).trans r13)) (InvX.put hs hm h30 hR 14 (by decide) 48 rfl _ ((Below.refl _ _).alloc (Nat.le_refl _) _) (TS_lit2 w1 _ _))
      · obtain rfl := Option.some.inj ho
        clear ho hl
        have r11 := hR 11 (by decide) (hw ⟨11, .data⟩ (by simp) rfl)
        change Rl _ _ 11 (x 45) _ at r11
        have r14 := hR 14 (by decide) (hw ⟨14, .data⟩ (by simp) rfl)
        change Rl _ _ 14 (x 48) _ at r14
        refine wpOp_enter rfl rfl (x_say w1 _ _ _ _ _ _ rfl ((evS (X := ⟨h, f, r, .slice Ab nb cb, EF, 0⟩) a0 x 45 (by decide) hsz (by decide)).trans r11) (evS (X := ⟨h, f, r, .slice Ab nb cb, EF, 0⟩) a0 x 48 (by decide) hsz (by decide))) ?_
        refine (say_any _ _ w1 HSZ2.out r14).mono ?_
        rintro e w2 ⟨u, rfl, ho, hb⟩
        rw [HSE2.out] at ho
        exact ⟨u, rfl, InvX.put hs hm h30 hR 15 (by decide) 49 rfl _ hb (OB.mono ho hm.le)⟩
      · obtain rfl := Option.some.inj ho
        clear ho hl
        have r15 := hR 15 (by decide) (hw ⟨15, .data⟩ (by simp) rfl)
        change Rl _ _ 15 (x 49) _ at r15
        have f15 := OB.form_slice r15
        refine wpOp_value rfl rfl (x_step w1 _ _ _ 250 250 _ rfl (evS (X := ⟨h, f, r, .slice Ab nb cb, EF, 0⟩) a0 x 49 (by decide) hsz (by decide)) rfl rfl f15) (InvX.put hs hm h30 hR 16 (by decide) 50 rfl _ (Below.refl _ _) ⟨_, rfl, r15⟩)
      · obtain rfl := Option.some.inj ho
        clear ho hl
        refine wpOp_value rfl rfl (x_load w1 _ _ _ _ _ rfl ((mkA_evalN a0 DS x 13 (by decide)).trans ev13) hB13) (InvX.put hs hm h30 hR 17 (by decide) 51 rfl _ (Below.refl _ _) (rfl))
      · obtain rfl := Option.some.inj ho
        clear ho hl
        refine wpOp_value rfl rfl (x_texts1 w1 _ _ _ ⟨#[68, 65, 84, 65]⟩ rfl rfl) (InvX.put hs hm h30 hR 18 (by decide) 52 rfl _ ((Below.refl _ _).alloc (Nat.le_refl _) _) (TS_lit1 w1 _))
      · obtain rfl := Option.some.inj ho
        clear ho hl
        have r17 := hR 17 (by decide) (hw ⟨17, .data⟩ (by simp) rfl)
        change Rl _ _ 17 (x 51) _ at r17
        have r18 := hR 18 (by decide) (hw ⟨18, .data⟩ (by simp) rfl)
        change Rl _ _ 18 (x 52) _ at r18
        refine wpOp_enter rfl rfl (x_say w1 _ _ _ _ _ _ rfl ((evS (X := ⟨h, f, r, .slice Ab nb cb, EF, 0⟩) a0 x 51 (by decide) hsz (by decide)).trans r17) (evS (X := ⟨h, f, r, .slice Ab nb cb, EF, 0⟩) a0 x 52 (by decide) hsz (by decide))) ?_
        refine (say_any _ _ w1 HSZ3.out r18).mono ?_
        rintro e w2 ⟨u, rfl, ho, hb⟩
        rw [HSE3.out] at ho
        exact ⟨u, rfl, InvX.put hs hm h30 hR 19 (by decide) 53 rfl _ hb (OB.mono ho hm.le)⟩
      · obtain rfl := Option.some.inj ho
        clear ho hl
        have r19 := hR 19 (by decide) (hw ⟨19, .data⟩ (by simp) rfl)
        change Rl _ _ 19 (x 53) _ at r19
        have f19 := OB.form_slice r19
        refine wpOp_value rfl rfl (x_step w1 _ _ _ 250 251 _ rfl (evS (X := ⟨h, f, r, .slice Ab nb cb, EF, 0⟩) a0 x 53 (by decide) hsz (by decide)) rfl rfl f19) (InvX.put hs hm h30 hR 20 (by decide) 54 rfl _ (Below.refl _ _) ⟨_, rfl, r19⟩)
      · obtain rfl := Option.some.inj ho
        clear ho hl
        refine wpOp_value rfl rfl (x_move w1 _ _ _ _ rfl ((mkA_evalN a0 DS x 3 (by decide)).trans ev3)) (InvX.put hs hm h30 hR 21 (by decide) 55 rfl _ (Below.refl _ _) (rfl))
      · obtain rfl := Option.some.inj ho
        clear ho hl
        have r21 := hR 21 (by decide) (hw ⟨21, .data⟩ (by simp) rfl)
        change Rl _ _ 21 (x 55) _ at r21
        refine wpOp_enter rfl rfl (x_fun w1 _ _ 43 _ _ _ rfl rfl ((evS (X := ⟨h, f, r, .slice Ab nb cb, EF, 0⟩) a0 x 55 (by decide) hsz (by decide)).trans r21) (enters_of Try.func43 (by kernel_rfl) rfl)) ?_
        refine (stuff_any _ b w1 (by have := HNB.out; have := HNBE.out; omega) (HML.out.below (hWm.trans (hm.bel.mono hWm.size))) (HB.out.below (hWm.trans (hm.bel.mono hWm.size)))).mono ?_
        rintro e w2 ⟨u, rfl, ho, hb⟩
        rw [HE4.out] at ho
        exact ⟨u, rfl, InvX.put hs hm h30 hR 22 (by decide) 56 rfl _ hb (OB.mono ho hm.le)⟩
      · obtain rfl := Option.some.inj ho
        clear ho hl
        have r22 := hR 22 (by decide) (hw ⟨22, .data⟩ (by simp) rfl)
        change Rl _ _ 22 (x 56) _ at r22
        have f22 := OB.form_slice r22
        refine wpOp_value rfl rfl (x_step w1 _ _ _ 354 354 _ rfl (evS (X := ⟨h, f, r, .slice Ab nb cb, EF, 0⟩) a0 x 56 (by decide) hsz (by decide)) rfl rfl f22) (InvX.put hs hm h30 hR 23 (by decide) 57 rfl _ (Below.refl _ _) ⟨_, rfl, r22⟩)
      · obtain rfl := Option.some.inj ho
        clear ho hl
        refine wpOp_value rfl rfl (x_load w1 _ _ _ _ _ rfl ((mkA_evalN a0 DS x 13 (by decide)).trans ev13) hB13) (InvX.put hs hm h30 hR 24 (by decide) 58 rfl _ (Below.refl _ _) (rfl))
      · obtain rfl := Option.some.inj ho
        clear ho hl
        refine wpOp_value rfl rfl (x_texts1 w1 _ _ _ ⟨#[81, 85, 73, 84]⟩ rfl rfl) (InvX.put hs hm h30 hR 25 (by decide) 59 rfl _ ((Below.refl _ _).alloc (Nat.le_refl _) _) (TS_lit1 w1 _))
      · obtain rfl := Option.some.inj ho
        clear ho hl
        have r24 := hR 24 (by decide) (hw ⟨24, .data⟩ (by simp) rfl)
        change Rl _ _ 24 (x 58) _ at r24
        have r25 := hR 25 (by decide) (hw ⟨25, .data⟩ (by simp) rfl)
        change Rl _ _ 25 (x 59) _ at r25
        refine wpOp_enter rfl rfl (x_say w1 _ _ _ _ _ _ rfl ((evS (X := ⟨h, f, r, .slice Ab nb cb, EF, 0⟩) a0 x 58 (by decide) hsz (by decide)).trans r24) (evS (X := ⟨h, f, r, .slice Ab nb cb, EF, 0⟩) a0 x 59 (by decide) hsz (by decide))) ?_
        refine (say_any _ _ w1 HSZ5.out r25).mono ?_
        rintro e w2 ⟨u, rfl, ho, hb⟩
        rw [HSE5.out] at ho
        exact ⟨u, rfl, InvX.put hs hm h30 hR 26 (by decide) 60 rfl _ hb (OB.mono ho hm.le)⟩
      · obtain rfl := Option.some.inj ho
        clear ho hl
        have r26 := hR 26 (by decide) (hw ⟨26, .data⟩ (by simp) rfl)
        change Rl _ _ 26 (x 60) _ at r26
        have f26 := OB.form_slice r26
        refine wpOp_value rfl rfl (x_step w1 _ _ _ 250 250 _ rfl (evS (X := ⟨h, f, r, .slice Ab nb cb, EF, 0⟩) a0 x 60 (by decide) hsz (by decide)) rfl rfl f26) (InvX.put hs hm h30 hR 27 (by decide) 61 rfl _ (Below.refl _ _) ⟨_, rfl, r26⟩)
      · obtain rfl := Option.some.inj ho
        clear ho hl
        have r4 := hR 4 (by decide) (hw ⟨4, .data⟩ (by simp) rfl)
        change Rl _ _ 4 (x 38) _ at r4
        have r10 := hR 10 (by decide) (hw ⟨10, .data⟩ (by simp) rfl)
        change Rl _ _ 10 (x 44) _ at r10
        have r16 := hR 16 (by decide) (hw ⟨16, .data⟩ (by simp) rfl)
        change Rl _ _ 16 (x 50) _ at r16
        have r20 := hR 20 (by decide) (hw ⟨20, .data⟩ (by simp) rfl)
        change Rl _ _ 20 (x 54) _ at r20
        have r23 := hR 23 (by decide) (hw ⟨23, .data⟩ (by simp) rfl)
        change Rl _ _ 23 (x 57) _ at r23
        have r27 := hR 27 (by decide) (hw ⟨27, .data⟩ (by simp) rfl)
        change Rl _ _ 27 (x 61) _ at r27
        obtain ⟨u0, q0, o0⟩ := r4
        obtain ⟨u1, q1, o1⟩ := r10
        obtain ⟨u2, q2, o2⟩ := r16
        obtain ⟨u3, q3, o3⟩ := r20
        obtain ⟨u4, q4, o4⟩ := r23
        obtain ⟨u5, q5, o5⟩ := r27
        refine wpOp_value rfl rfl (x_steps w1 _ _ (fun k => Operand.tmp ([38, 44, 50, 54, 57, 61].getD k 0)) (fun k => [u0, u1, u2, u3, u4, u5].getD k undef) rfl ((evS (X := ⟨h, f, r, .slice Ab nb cb, EF, 0⟩) a0 x 38 (by decide) hsz (by decide)).trans q0) ((evS (X := ⟨h, f, r, .slice Ab nb cb, EF, 0⟩) a0 x 44 (by decide) hsz (by decide)).trans q1) ((evS (X := ⟨h, f, r, .slice Ab nb cb, EF, 0⟩) a0 x 50 (by decide) hsz (by decide)).trans q2) ((evS (X := ⟨h, f, r, .slice Ab nb cb, EF, 0⟩) a0 x 54 (by decide) hsz (by decide)).trans q3) ((evS (X := ⟨h, f, r, .slice Ab nb cb, EF, 0⟩) a0 x 57 (by decide) hsz (by decide)).trans q4) ((evS (X := ⟨h, f, r, .slice Ab nb cb, EF, 0⟩) a0 x 61 (by decide) hsz (by decide)).trans q5)) (InvX.put hs hm h30 hR 28 (by decide) 62 rfl _ ((Below.refl _ _).alloc (Nat.le_refl _) _) ⟨w1.heap.size, (fun k => [u0, u1, u2, u3, u4, u5].getD k undef), rfl, Row.new w1 _ _, hm.le, ?_⟩)
        intro k hk
        rcases (by omega : k = 0 ∨ k = 1 ∨ k = 2 ∨ k = 3 ∨ k = 4 ∨ k = 5) with rfl | rfl | rfl | rfl | rfl | rfl
        · exact o0.below ((Below.refl _ _).alloc (Nat.le_refl _) _)
        · exact o1.below ((Below.refl _ _).alloc (Nat.le_refl _) _)
        · exact o2.below ((Below.refl _ _).alloc (Nat.le_refl _) _)
        · exact o3.below ((Below.refl _ _).alloc (Nat.le_refl _) _)
        · exact o4.below ((Below.refl _ _).alloc (Nat.le_refl _) _)
        · exact o5.below ((Below.refl _ _).alloc (Nat.le_refl _) _)
      · obtain rfl := Option.some.inj ho
        clear ho hl
        refine wpOp_value rfl rfl (x_var w1 _ _ rfl) (InvX.put hs hm h30 hR 29 (by decide) 14 rfl _ ((Below.refl _ _).alloc (Nat.le_refl _) _) (⟨w1.heap.size, rfl, Boxed.new w1 _ _, hm.le⟩))
      · obtain rfl := Option.some.inj ho
        clear ho hl
        have r28 := hR 28 (by decide) (hw ⟨28, .data⟩ (by simp) rfl)
        change Rl _ _ 28 (x 62) _ at r28
        have r29 := hR 29 (by decide) (hw ⟨29, .data⟩ (by simp) rfl)
        change Rl _ _ 29 (x 14) _ at r29
        obtain ⟨g2, us, q28, hrow, hg2, hus⟩ := r28
        obtain ⟨g, q29, hbx, hg⟩ := r29
        refine wpOp_skip rfl rfl (x_store w1 _ _ _ _ g (.slice (some ⟨g2, 0, none⟩) 6 6) _ rfl ((evS (X := ⟨h, f, r, .slice Ab nb cb, EF, 0⟩) a0 x 14 (by decide) hsz (by decide)).trans q29) ((evS (X := ⟨h, f, r, .slice Ab nb cb, EF, 0⟩) a0 x 62 (by decide) hsz (by decide)).trans q28) ⟨_, _, _, rfl⟩ hbx) ?_
        have hne : g ≠ g2 := fun e => by subst e; exact Boxed.ne_row hbx hrow
        exact ⟨x, rfl, by simp [hs], ⟨by rw [size_set]; exact hm.le, hm.bel.setCell (p := ⟨g, 0, none⟩) hg _⟩, fun h => absurd h (by simp [hs]), fun _ => ⟨⟨g, g2, us, q29, hbx.set _, hg, hrow.other _ _ (fun e => hne e.symm), hg2, fun k hk => OB.setBox (hus k hk) hbx, hne⟩, fun j hj => by
          by_cases e : j = 30
          · subst e; simp [hs]
          · rw [getD_set_ne true (fun h => e h.symm)]
            exact listed_of hs hj (hw ⟨j, .phase⟩ (by rcases (by omega : j = 0 ∨ j = 1 ∨ j = 2 ∨ j = 3 ∨ j = 4 ∨ j = 5 ∨ j = 6 ∨ j = 7 ∨ j = 8 ∨ j = 9 ∨ j = 10 ∨ j = 11 ∨ j = 12 ∨ j = 13 ∨ j = 14 ∨ j = 15 ∨ j = 16 ∨ j = 17 ∨ j = 18 ∨ j = 19 ∨ j = 20 ∨ j = 21 ∨ j = 22 ∨ j = 23 ∨ j = 24 ∨ j = 25 ∨ j = 26 ∨ j = 27 ∨ j = 28 ∨ j = 29) with rfl | rfl | rfl | rfl | rfl | rfl | rfl | rfl | rfl | rfl | rfl | rfl | rfl | rfl | rfl | rfl | rfl | rfl | rfl | rfl | rfl | rfl | rfl | rfl | rfl | rfl | rfl | rfl | rfl | rfl <;> simp) rfl)⟩⟩
    case hdone =>
      intro listed a1 W6 hI hall
      obtain ⟨x, hx, -, hm6, -, hF⟩ := hI
      obtain ⟨⟨g14, g2, us, h14, hbx14, hg14, hrow, hg2, hus, hne⟩, -⟩ := hF (hall 30 (by decide))
      subst hx
      have ha0 := HA0.out
      subst ha0
      have HB10' := Lib.hid (boxed_belowN HB10.out hm6.bel)
      have HB11' := Lib.hid (boxed_belowN HB11.out hm6.bel)
      have HB12' := Lib.hid (boxed_belowN HB12.out hm6.bel)
      have HB13' := Lib.hid (boxed_belowN HB13.out hm6.bel)
      have hw6 : Below w.heap.size w W6 := hWm.trans (hm6.bel.mono hWm.size)
      have hs6 : W5.heap.size ≤ W6.heap.size := hm6.le
      simp only [mkA, setsA, DS, List.foldl_cons, List.foldl_nil, List.setIfInBounds_toArray, List.set_cons_zero, List.set_cons_succ, h14]
      obtain ⟨n₅, hn5⟩ : ∃ n, W5.heap.size = n := ⟨_, rfl⟩
      obtain ⟨n₁, hn1⟩ : ∃ n, W6.heap.size = n := ⟨_, rfl⟩
      obtain ⟨n₀, hn0⟩ : ∃ n, w.heap.size = n := ⟨_, rfl⟩
      obtain ⟨B12, hb12⟩ : ∃ n, w4.heap.size = n := ⟨_, rfl⟩
      have hsbk : ∀ j, j < 6 → ∀ r, (us j).ownBlock = some r → r < n₁ := fun j hj r hr => by have := (World.ownsRow.lt (hus j hj) r hr).2; omega
      have hg14l : g14 < n₁ := by have := hbx14.lt; omega
      have hg2l : g2 < n₁ := by have := hrow.lt; omega
      rw [hn5] at hus hg14 hg2 hs6 hs5
      rw [hn0] at hs4 hw6 HB10' HB11'
      rw [hb12] at HB12' HB13' hs4 hs5
      have hxi : XI n₀ n₁ n₅ B12 (B12 + 1) g14 g2 us EF w 0 6 [] (fun b => b < n₁) (W6.alloc (.cells #[.slice Am nm cm] 22)) (.slice none 0 0) := by
        have hba : Below W6.heap.size W6 (W6.alloc (.cells #[.slice Am nm cm] 22)) := (Below.refl _ _).alloc (Nat.le_refl _) _
        exact ⟨boxed_below HB10'.out hba, boxed_below HB11'.out hba, boxed_below HB12'.out hba, boxed_below HB13'.out hba, boxed_below hbx14 hba, hrow.belowS hba, World.ownsRow_nil _ _ _ _, fun j hj => (hus j hj).below hba, hsbk, fun b hb => hb, fun r hr => by simp [Value.ownBlock] at hr, hw6.trans (hba.mono (by omega)), by rw [alloc_size]; omega, ⟨by omega, by omega, by omega, hg14, hg2, hg14l, hg2l, hne⟩⟩
      have hseq := replies1_seq n₀ n₁ Am cm m (by have := HMM.out; omega) w (W6.alloc (.cells #[.slice Am nm cm] 22)) hn0 (by rw [← hn0]; rw [hn0]; exact hxi.bel) (by omega) HML.out (by rw [HNM.out]; exact HM.out) (by rw [HNM.out, ← hn1]; exact Boxed.new W6 _ _)
      have hsz7 : (W6.alloc (.cells #[.slice Am nm cm] 22)).heap.size = n₁ + 1 := by rw [alloc_size, hn1]
      have HXI := Lib.hid hxi
      have HSEQ := Lib.hid hseq
      have HPL := Lib.hid hxi.pl
      have hn01 : n₀ ≤ n₁ := by omega
      have hn02 : n₀ + 2 ≤ n₁ := by omega
      clear hF hall hxi hseq hsbk hus hbx14 hrow hg14 hg2 hne hw6 HB10' HB11' HB12' HB13' HB10 HB11 HB12 HB13 hg14l hg2l hs4 hs5 hs6 hm6 hWm ev0 ev1 ev2 ev3 ev13 hsz HA0
      gi_wp2_with fail
      refine ⟨trivial, rfl, (callsIn_wide.2 (replies_any _ _ _ _)).mono ?_⟩
      rintro e w7 ⟨rfl, rfl⟩
      gi_wp2_with fail
      refine wpIn_gen ?_
      intro aR WR haR hWR
      subst hWR
      refine wpIn_rangeFunc_D (gf := 71) (lb := #[.pointer (some ⟨n₁, 0, none⟩)]) (n₀ := n₀) (Enc := EncN) (xs := rps m) (by rw [haR]; rfl) (enters_of Try.func71 (by kernel_rfl) rfl)
        HSEQ.out (fun x az _ _ h => by cases h; rfl)
        (fun x az M W lp dk r o ds h h1 h2 => h) (by rw [hsz7]; omega) (Below.refl _ _)
        (fun b => b < n₁) (fun b h => by rw [hsz7]; omega) (fun b h => by subst h; exact ⟨by omega, by rw [hsz7]; omega, rfl⟩)
        (fun k D W => ∃ o L outL outv, (k < 6 ∧ o = 3 * k ∧ L = 6 - k ∧ outL.length ≤ k * 300000) ∧ Hid (exc (st.drop k) ((rps m).drop k) outL = R) ∧ XI n₀ n₁ n₅ B12 (B12 + 1) g14 g2 us EF w o L outL D W outv)
        (fun c k D W => c = .ret ∧ YI n₀ n₁ w R.1 R.2 D W) (fun k D W W' ⟨o, L, outL, outv, h1, h2, h3⟩ hk => ⟨o, L, outL, outv, h1, h2, h3.keep hk⟩) (fun c k D W W' ⟨h1, h2⟩ hk => ⟨h1, h2.keep hk⟩)
        ⟨0, 6, [], _, ⟨by omega, rfl, rfl, by simp⟩, HST, HXI.out⟩
        (fun az => { tmps := (aR.tmps.setIfInBounds 65 (az[0]?.getD undef)).setIfInBounds 15 (az[0]?.getD undef), defers := [] }) ?assign ?body ?done ?stop
      case assign =>
        rintro lp y az M W K hE hK
        have hE' : az = #[.int .i64 (y : Int)] := hE
        subst hE'
        subst haR
        simp only [List.setIfInBounds_toArray, List.set_cons_zero, List.set_cons_succ] at hK
        gi_wp2
        exact hK
      case body =>
        rintro lp k C az D M W hx hE ⟨o, L, outL, outv, ⟨hk6, ho, hL, hol⟩, hex, hin⟩ hDb hMD
        have hE' : az = #[.int .i64 (C : Int)] := hE
        subst hE'
        have hCr := rps_range m.length m (Nat.le_refl _) C (List.mem_of_getElem? hx)
        have hdrop : (rps m).drop k = C :: (rps m).drop (k + 1) := by
          have hk := (List.getElem?_eq_some_iff.1 hx).1
          rw [List.drop_eq_getElem_cons hk]
          rw [List.getElem?_eq_getElem hk] at hx
          cases hx
          rfl
        have hex2 := hex.out
        rw [hdrop, HDR.out k hk6] at hex2
        obtain ⟨x0, x1, x2⟩ := rowX_get us k hk6
        have c0 := hin.row.cell (3 * k)
        have c1 := hin.row.cell (3 * k + 1)
        have c2 := hin.row.cell (3 * k + 2)
        rw [x0, ← ho] at c0
        rw [x1, ← ho] at c1
        rw [x2, ← ho] at c2
        obtain ⟨lo, hlo⟩ : ∃ q, loF k = q := ⟨_, rfl⟩
        obtain ⟨hi, hhi⟩ : ∃ q, hiF k = q := ⟨_, rfl⟩
        obtain ⟨e, hee⟩ : ∃ q, EF k = q := ⟨_, rfl⟩
        have hel := HL6.out k hk6
        have hsnd := hin.snd k hk6
        have hep := HEPP.out k hk6
        rw [hlo] at c1 hex2
        rw [hhi] at c2 hex2
        rw [hee] at hel hsnd hex2 hep
        obtain ⟨Ak, nk, ck, hu⟩ := OB.form_slice hsnd
        rw [hu] at c0 hsnd
        obtain ⟨Ao, no, co, rfl⟩ := OB.form_slice hin.out
        have hba : Below W.heap.size W (W.alloc (.cells #[.slice Ak nk ck, .int .i64 (lo : Int), .int .i64 (hi : Int)] 50)) := (Below.refl _ _).alloc (Nat.le_refl _) _
        have h1 := hin.below hba
        have hsnd1 := hsnd.below hba
        have hc14 := hin.b14.cell
        have hf14 := hin.b14.frozen
        have hc12 := h1.b12.cell
        have hf12 := h1.b12.frozen
        have hc13 := h1.b13.cell
        have hd14 := h1.b14.cell
        have hg14' := h1.b14.frozen
        have L0 : 0 < L := by omega
        have L1 : (0 : Int) < (L : Int) := by omega
        obtain ⟨m', hm⟩ : ∃ q, q = L - 1 := ⟨_, rfl⟩
        have HMM' := Lib.hid hm
        have HIN := Lib.hid hin
        have H1 := Lib.hid h1
        have HSND := Lib.hid hsnd1
        have HBA := Lib.hid hba
        have HDB := Lib.hid hDb
        have HMD := Lib.hid hMD
        have HEX := Lib.hid hex2
        have HEL := Lib.hid hel
        have HEP := Lib.hid hep
        have HEE := Lib.hid hee
        have HOL : Hid (outL.length ≤ 10000000) := by show _ ≤ _; omega
        have HOL2 := Lib.hid hol
        have HKL : Hid (k < 6 ∧ o = 3 * k ∧ L = 6 - k) := ⟨hk6, ho, hL⟩
        clear hin h1 hsnd hsnd1 hba hDb hMD hex2 hex hel hep hee hdrop hx x0 x1 x2 hlo hhi hu hol ho hL hE
        subst haR
        simp only [List.setIfInBounds_toArray, List.set_cons_zero, List.set_cons_succ]
        rcases (by omega : C < lo ∨ (lo ≤ C ∧ hi < C) ∨ (lo ≤ C ∧ C ≤ hi)) with hc | hc | hc
        · have dClo : decide ((C : Int) < (lo : Int)) = true := decide_eq_true (by omega)
          have eClo : decide (C < lo) = true := decide_eq_true (by omega)
          by_cases h4 : C < 400
          · have HRES : Hid (R = (outL ++ quitL, 0)) := by show _ = _; have := HEX.out; rw [exc_bad _ _ _ _ _ (by simp only; omega), if_pos h4] at this; exact this.symm
            have d4 : decide (C < 400) = true := decide_eq_true h4
            have d4' : decide ((C : Int) < 400) = true := decide_eq_true (by omega)
            clear hc h4
            gi_wp2_with fail
            refine wpIn_gen ?_
            intro aQ WQ haQ hWQ
            subst hWQ
            refine quit_region (n₀ := n₀) (n₁ := n₁) (n₅ := n₅) (B12 := B12) (B13 := B12 + 1) (g14 := g14) (g2 := g2) (us := us) (EF := EF) (w00 := w) (o := o) (L := L) (outL := outL) (D := D) (M := M) (CV := 0) (outv := .slice Ao no co) rfl (by kernel_rfl) _ _ _ _ _ _ _ _ rfl rfl rfl rfl rfl rfl rfl rfl rfl rfl rfl _ rfl rfl rfl rfl rfl ⟨rfl, rfl, rfl, rfl, rfl, rfl, rfl, rfl⟩ ⟨rfl, rfl, rfl, rfl, rfl, rfl, rfl, rfl⟩ (by kernel_rfl) (by kernel_rfl) (by kernel_rfl) (by kernel_rfl) (by rw [haQ]; rfl) (by rw [haQ]; rfl) (by rw [haQ]; rfl) (by rw [haQ]; rfl) (by rw [haQ]; rfl) (by rw [haQ]; rfl) H1.out ⟨_, _, _, rfl⟩ (fun b hb => Nat.lt_of_lt_of_le (HDB.out b hb) HBA.out.size) (fun b hb => ⟨Nat.lt_of_lt_of_le (HMD.out b hb).1 HBA.out.size, (HMD.out b hb).2⟩) HOL.out ?_
            intro y w9 hz
            subst haQ
            simp only [mkA, setsA, QS, List.foldl_cons, List.foldl_nil, List.setIfInBounds_toArray, List.set_cons_zero, List.set_cons_succ]
            obtain ⟨D9, hD9, hK9, hY9⟩ := hz.post HIN.out HBA.out HMD.out
            have HD9 := Lib.hid hD9
            have HK9 := Lib.hid hK9
            have HY9 := Lib.hid hY9
            clear hD9 hK9 hY9 hz
            gi_wp2
            exact ⟨D9, HD9.out, HK9.out, rfl, by rw [HRES.out]; exact HY9.out⟩
          · have HRES : Hid (R = (outL ++ quitL, C)) := by show _ = _; have := HEX.out; rw [exc_bad _ _ _ _ _ (by simp only; omega), if_neg h4] at this; exact this.symm
            have d4 : decide (C < 400) = false := decide_eq_false h4
            have d4' : decide ((C : Int) < 400) = false := decide_eq_false (by omega)
            clear hc h4
            gi_wp2_with fail
            refine wpIn_gen ?_
            intro aQ WQ haQ hWQ
            subst hWQ
            refine quit_region (n₀ := n₀) (n₁ := n₁) (n₅ := n₅) (B12 := B12) (B13 := B12 + 1) (g14 := g14) (g2 := g2) (us := us) (EF := EF) (w00 := w) (o := o) (L := L) (outL := outL) (D := D) (M := M) (CV := C) (outv := .slice Ao no co) rfl (by kernel_rfl) _ _ _ _ _ _ _ _ rfl rfl rfl rfl rfl rfl rfl rfl rfl rfl rfl _ rfl rfl rfl rfl rfl ⟨rfl, rfl, rfl, rfl, rfl, rfl, rfl, rfl⟩ ⟨rfl, rfl, rfl, rfl, rfl, rfl, rfl, rfl⟩ (by kernel_rfl) (by kernel_rfl) (by kernel_rfl) (by kernel_rfl) (by rw [haQ]; rfl) (by rw [haQ]; rfl) (by rw [haQ]; rfl) (by rw [haQ]; rfl) (by rw [haQ]; rfl) (by rw [haQ]; rfl) H1.out ⟨_, _, _, rfl⟩ (fun b hb => Nat.lt_of_lt_of_le (HDB.out b hb) HBA.out.size) (fun b hb => ⟨Nat.lt_of_lt_of_le (HMD.out b hb).1 HBA.out.size, (HMD.out b hb).2⟩) HOL.out ?_
            intro y w9 hz
            subst haQ
            simp only [mkA, setsA, QS, List.foldl_cons, List.foldl_nil, List.setIfInBounds_toArray, List.set_cons_zero, List.set_cons_succ]
            obtain ⟨D9, hD9, hK9, hY9⟩ := hz.post HIN.out HBA.out HMD.out
            have HD9 := Lib.hid hD9
            have HK9 := Lib.hid hK9
            have HY9 := Lib.hid hY9
            clear hD9 hK9 hY9 hz
            gi_wp2
            exact ⟨D9, HD9.out, HK9.out, rfl, by rw [HRES.out]; exact HY9.out⟩
        · have dClo : decide ((C : Int) < (lo : Int)) = false := decide_eq_false (by omega)
          have eClo : decide (C < lo) = false := decide_eq_false (by omega)
          have dhiC : decide ((hi : Int) < (C : Int)) = true := decide_eq_true (by omega)
          have ehiC : decide (hi < C) = true := decide_eq_true (by omega)
          by_cases h4 : C < 400
          · have HRES : Hid (R = (outL ++ quitL, 0)) := by show _ = _; have := HEX.out; rw [exc_bad _ _ _ _ _ (by simp only; omega), if_pos h4] at this; exact this.symm
            have d4 : decide (C < 400) = true := decide_eq_true h4
            have d4' : decide ((C : Int) < 400) = true := decide_eq_true (by omega)
            clear hc h4
            gi_wp2_with fail
            refine wpIn_gen ?_
            intro aQ WQ haQ hWQ
            subst hWQ
            refine quit_region (n₀ := n₀) (n₁ := n₁) (n₅ := n₅) (B12 := B12) (B13 := B12 + 1) (g14 := g14) (g2 := g2) (us := us) (EF := EF) (w00 := w) (o := o) (L := L) (outL := outL) (D := D) (M := M) (CV := 0) (outv := .slice Ao no co) rfl (by kernel_rfl) _ _ _ _ _ _ _ _ rfl rfl rfl rfl rfl rfl rfl rfl rfl rfl rfl _ rfl rfl rfl rfl rfl ⟨rfl, rfl, rfl, rfl, rfl, rfl, rfl, rfl⟩ ⟨rfl, rfl, rfl, rfl, rfl, rfl, rfl, rfl⟩ (by kernel_rfl) (by kernel_rfl) (by kernel_rfl) (by kernel_rfl) (by rw [haQ]; rfl) (by rw [haQ]; rfl) (by rw [haQ]; rfl) (by rw [haQ]; rfl) (by rw [haQ]; rfl) (by rw [haQ]; rfl) H1.out ⟨_, _, _, rfl⟩ (fun b hb => Nat.lt_of_lt_of_le (HDB.out b hb) HBA.out.size) (fun b hb => ⟨Nat.lt_of_lt_of_le (HMD.out b hb).1 HBA.out.size, (HMD.out b hb).2⟩) HOL.out ?_
            intro y w9 hz
            subst haQ
            simp only [mkA, setsA, QS, List.foldl_cons, List.foldl_nil, List.setIfInBounds_toArray, List.set_cons_zero, List.set_cons_succ]
            obtain ⟨D9, hD9, hK9, hY9⟩ := hz.post HIN.out HBA.out HMD.out
            have HD9 := Lib.hid hD9
            have HK9 := Lib.hid hK9
            have HY9 := Lib.hid hY9
            clear hD9 hK9 hY9 hz
            gi_wp2
            exact ⟨D9, HD9.out, HK9.out, rfl, by rw [HRES.out]; exact HY9.out⟩
          · have HRES : Hid (R = (outL ++ quitL, C)) := by show _ = _; have := HEX.out; rw [exc_bad _ _ _ _ _ (by simp only; omega), if_neg h4] at this; exact this.symm
            have d4 : decide (C < 400) = false := decide_eq_false h4
            have d4' : decide ((C : Int) < 400) = false := decide_eq_false (by omega)
            clear hc h4
            gi_wp2_with fail
            refine wpIn_gen ?_
            intro aQ WQ haQ hWQ
            subst hWQ
            refine quit_region (n₀ := n₀) (n₁ := n₁) (n₅ := n₅) (B12 := B12) (B13 := B12 + 1) (g14 := g14) (g2 := g2) (us := us) (EF := EF) (w00 := w) (o := o) (L := L) (outL := outL) (D := D) (M := M) (CV := C) (outv := .slice Ao no co) rfl (by kernel_rfl) _ _ _ _ _ _ _ _ rfl rfl rfl rfl rfl rfl rfl rfl rfl rfl rfl _ rfl rfl rfl rfl rfl ⟨rfl, rfl, rfl, rfl, rfl, rfl, rfl, rfl⟩ ⟨rfl, rfl, rfl, rfl, rfl, rfl, rfl, rfl⟩ (by kernel_rfl) (by kernel_rfl) (by kernel_rfl) (by kernel_rfl) (by rw [haQ]; rfl) (by rw [haQ]; rfl) (by rw [haQ]; rfl) (by rw [haQ]; rfl) (by rw [haQ]; rfl) (by rw [haQ]; rfl) H1.out ⟨_, _, _, rfl⟩ (fun b hb => Nat.lt_of_lt_of_le (HDB.out b hb) HBA.out.size) (fun b hb => ⟨Nat.lt_of_lt_of_le (HMD.out b hb).1 HBA.out.size, (HMD.out b hb).2⟩) HOL.out ?_
            intro y w9 hz
            subst haQ
            simp only [mkA, setsA, QS, List.foldl_cons, List.foldl_nil, List.setIfInBounds_toArray, List.set_cons_zero, List.set_cons_succ]
            obtain ⟨D9, hD9, hK9, hY9⟩ := hz.post HIN.out HBA.out HMD.out
            have HD9 := Lib.hid hD9
            have HK9 := Lib.hid hK9
            have HY9 := Lib.hid hY9
            clear hD9 hK9 hY9 hz
            gi_wp2
            exact ⟨D9, HD9.out, HK9.out, rfl, by rw [HRES.out]; exact HY9.out⟩
        · have dClo : decide ((C : Int) < (lo : Int)) = false := decide_eq_false (by omega)
          have eClo : decide (C < lo) = false := decide_eq_false (by omega)
          have dhiC : decide ((hi : Int) < (C : Int)) = false := decide_eq_false (by omega)
          have ehiC : decide (hi < C) = false := decide_eq_false (by omega)
          obtain ⟨kk6, ko, kL⟩ := HKL.out
          by_cases hL1 : L = 1
          · have ks := fun w => slice_steps g2 o L (by omega) m' hm w
            simp only [if_pos hL1] at ks
            have m0 : ((m' : Int) == 0) = true := by simp; omega
            have m0' : (m' == 0) = true := by simp; omega
            have hlast : Hid (R = (outL ++ e, C)) := by
              have h6 : st.drop (k + 1) = [] := by rw [show k + 1 = 6 by omega]; exact HD6.out
              have := HEX.out
              rw [h6, exc_last _ _ _ _ hc] at this
              exact this.symm
            clear hc hm ko kL kk6 hL1
            gi_wp2_with (gi_at_builtin; go_loud (refine wpBI_append rfl _ _ rfl (n₁ + 1) (.slice Ao no co) _ outL e rfl H1.out.out rfl HSND.out.reads HEP.out (by have := HOL.out; have := HEL.out; omega) H1.out.sz ?_; intro v5 w5 hown5 hgrow5 hnew5; obtain ⟨out2, hout2⟩ : ∃ q, outL ++ e = q := ⟨_, rfl⟩; rw [hout2] at hown5; have HOUT2 := Lib.hid hout2; have hlen2 := congrArg List.length hout2; rw [List.length_append] at hlen2; have HLEN2 := Lib.hid hlen2; obtain ⟨A5, c5, rfl, -, -, -⟩ := hown5.reads.form; obtain ⟨n5', hn5'⟩ : ∃ q, out2.length = q := ⟨_, rfl⟩; rw [hn5'] at hown5 hnew5 ⊢; obtain ⟨k1, k2, k3, k4, k5, k6, k7, k8, k9⟩ := H1.out.grown (fun b hb => Nat.lt_of_lt_of_le (HDB.out b hb) HBA.out.size) hown5 hgrow5 hnew5; have k3c := k3.cell; have k3f := k3.frozen; have k5' := boxed_set_other (u := .slice A5 n5' c5) k5 (show g14 ≠ B12 by have := HPL.out; omega); have k5c := k5'.cell; have k5f := k5'.frozen; obtain ⟨D5, hD5, hK5, hX5⟩ := H1.out.step (o' := o) (L' := m') (M := M) (fun b hb => Nat.lt_of_lt_of_le (HDB.out b hb) HBA.out.size) (fun b hb => ⟨Nat.lt_of_lt_of_le (HMD.out b hb).1 HBA.out.size, (HMD.out b hb).2⟩) hown5 hgrow5 hnew5; have q12 := hX5.b12.cell; have q10f := hX5.b10.frozen; have q10c := hX5.b10.cell; have q11 := boxed_set_other (u := .slice A5 n5' c5) hX5.b11 (show n₀ + 1 ≠ n₀ by omega); have q11c := q11.cell; have q11f := q11.frozen; have HD5 := Lib.hid hD5; have HK5 := Lib.hid ((KeepOn.of_below (n₀ := n₀) (D := M) HBA.out).trans hK5); have HX5 := Lib.hid hX5; clear hown5 hgrow5 hnew5 k1 k2 k3 k4 k5 k6 k7 k8 k9 k5' hout2 hlen2 hD5 hK5 hX5 q11))
            rw [HOUT2.out] at hlast
            obtain ⟨hy, hky⟩ := HX5.out.fin C
            exact ⟨D5, fun b hb => by rw [size_set, size_set]; exact HD5.out b hb, HK5.out.trans (hky M (fun b hm hd => (HD5.out b hd).2 hm)), rfl, by rw [hlast.out]; exact hy⟩
          · have ks := fun w => slice_steps g2 o L (by omega) m' hm w
            simp only [if_neg hL1] at ks
            have m0 : ((m' : Int) == 0) = false := by simp; omega
            have m0' : (m' == 0) = false := by simp; omega
            have hnext : Hid (exc (st.drop (k + 1)) ((rps m).drop (k + 1)) (outL ++ e) = R) := by
              have h6 := HDR.out (k + 1) (by omega)
              have := HEX.out
              rw [h6, exc_ok _ _ _ _ _ _ hc, ← h6] at this
              exact this
            clear hc hm ko kL kk6
            gi_wp2_with (gi_at_builtin; go_loud (refine wpBI_append rfl _ _ rfl (n₁ + 1) (.slice Ao no co) _ outL e rfl H1.out.out rfl HSND.out.reads HEP.out (by have := HOL.out; have := HEL.out; omega) H1.out.sz ?_; intro v5 w5 hown5 hgrow5 hnew5; obtain ⟨out2, hout2⟩ : ∃ q, outL ++ e = q := ⟨_, rfl⟩; rw [hout2] at hown5; have HOUT2 := Lib.hid hout2; have hlen2 := congrArg List.length hout2; rw [List.length_append] at hlen2; have HLEN2 := Lib.hid hlen2; obtain ⟨A5, c5, rfl, -, -, -⟩ := hown5.reads.form; obtain ⟨n5', hn5'⟩ : ∃ q, out2.length = q := ⟨_, rfl⟩; rw [hn5'] at hown5 hnew5 ⊢; obtain ⟨k1, k2, k3, k4, k5, k6, k7, k8, k9⟩ := H1.out.grown (fun b hb => Nat.lt_of_lt_of_le (HDB.out b hb) HBA.out.size) hown5 hgrow5 hnew5; have k3c := k3.cell; have k3f := k3.frozen; have k5' := boxed_set_other (u := .slice A5 n5' c5) k5 (show g14 ≠ B12 by have := HPL.out; omega); have k5c := k5'.cell; have k5f := k5'.frozen; obtain ⟨D5, hD5, hK5, hX5⟩ := H1.out.step (o' := o + 3) (L' := m') (M := M) (fun b hb => Nat.lt_of_lt_of_le (HDB.out b hb) HBA.out.size) (fun b hb => ⟨Nat.lt_of_lt_of_le (HMD.out b hb).1 HBA.out.size, (HMD.out b hb).2⟩) hown5 hgrow5 hnew5; have q12 := hX5.b12.cell; have q10f := hX5.b10.frozen; have q10c := hX5.b10.cell; have q11 := boxed_set_other (u := .slice A5 n5' c5) hX5.b11 (show n₀ + 1 ≠ n₀ by omega); have q11c := q11.cell; have q11f := q11.frozen; have HD5 := Lib.hid hD5; have HK5 := Lib.hid ((KeepOn.of_below (n₀ := n₀) (D := M) HBA.out).trans hK5); have HX5 := Lib.hid hX5; clear hown5 hgrow5 hnew5 k1 k2 k3 k4 k5 k6 k7 k8 k9 k5' hout2 hlen2 hD5 hK5 hX5 q11))
            rw [HOUT2.out] at hnext
            exact ⟨D5, HD5.out, HK5.out, o + 3, m', out2, _, ⟨by have := HKL.out; omega, by have := HKL.out; omega, by have := HKL.out; have := HMM'.out; omega, by have := HLEN2.out; have := HEL.out; have := HOL2.out; omega⟩, hnext, HX5.out⟩
      case done =>
        rintro dk D W hdk ⟨o, L, outL, outv, ⟨hk6, -, -, -⟩, hex, hin⟩ hK hDk
        obtain ⟨Ao, no, co, rfl⟩ := OB.form_slice hin.out
        have hres : R = (outL, 0) := by
          have := hex.out
          rw [List.drop_eq_nil_of_le (Nat.le_refl _), exc_nil] at this
          exact this.symm
        rw [hsz7] at hdk
        have c12 := hin.b12.cell
        have c10 := hin.b10.cell
        have f10 := hin.b10.frozen
        have q11 := boxed_set_other (u := .slice Ao no co) hin.b11 (show n₀ + 1 ≠ n₀ by omega)
        have c11 := q11.cell
        have f11 := q11.frozen
        obtain ⟨hy, hky⟩ := hin.fin 0
        have hK2 := (hky (fun b => b = dk) (fun b h => by subst h; exact hDk)).block dk (Array.getElem?_eq_some_iff.1 hK).1 (.inr rfl)
        rw [hK] at hK2
        have HY := Lib.hid hy
        have HK2 := Lib.hid hK2
        have HRES := Lib.hid hres
        clear hy hky hK2 hres hin hex q11 hK
        subst haR
        gi_wp2
        refine ⟨by simp, .inl ⟨_, _, rfl, run_takeDeferred HK2.out, ?_⟩⟩
        have hy2 := HY.out.keep (KeepOn.putObj (n₀ := n₀) (D := D) _ dk (.deferred none) (by omega) hDk)
        obtain ⟨A9, n9, c9, y1, y2, -⟩ := hy2.ex
        refine ⟨_, results_cells2 rfl _ rfl rfl y1 hy2.b11, .slice A9 n9 c9, by first | rw [HRES.out] | (rw [HRES.out]; rfl), ?_, by rw [hn0]; exact hy2.bel⟩
        rw [HRES.out, hn0]
        exact OB.mono y2 (by omega)
      case stop =>
        rintro dk c k D W hdk ⟨rfl, hy⟩ hK hDk
        rw [hsz7] at hdk
        have HY := Lib.hid hy
        have HK2 := Lib.hid hK
        clear hy hK
        subst haR
        gi_wp2
        refine ⟨by simp, .inl ⟨_, _, rfl, run_takeDeferred HK2.out, ?_⟩⟩
        have hy2 := HY.out.keep (KeepOn.putObj (n₀ := n₀) (D := D) _ dk (.deferred none) (by omega) hDk)
        obtain ⟨A9, n9, c9, y1, y2, -⟩ := hy2.ex
        refine ⟨_, results_cells2 rfl _ rfl rfl y1 hy2.b11, .slice A9 n9 c9, rfl, ?_, by rw [hn0]; exact hy2.bel⟩
        rw [hn0]
        exact OB.mono y2 (by omega)
  | false =>
    obtain rfl : q2 = true := by simpa using hk
    clear hk
    refine (callsIn_wide (n := 0)).1 ?_
    refine callsIn_of_wp_marks Try.func15 rfl trivial ?_
    simp only [Try.ntmps15, List.size_toArray, List.length_cons, List.length_nil, Nat.reduceAdd, Nat.reduceSub, Array.replicate_succ, Array.replicate_zero, List.push_toArray, List.append_toArray, List.nil_append, List.cons_append]
    gi_wp2_with fail
    refine ⟨trivial, rfl, (callsIn_wide.2 (HD.out _)).mono ?_⟩
    rintro e w1 ⟨rfl, b1⟩
    gi_wp2_with fail
    refine ⟨trivial, rfl, (callsIn_wide.2 (HF.out _)).mono ?_⟩
    rintro e w2 ⟨rfl, b2⟩
    have c2 := b1.trans (b2.mono b1.size)
    clear b1 b2
    gi_wp2_with fail
    refine ⟨trivial, rfl, (callsIn_wide.2 (HR.out _)).mono ?_⟩
    rintro e w4 ⟨rfl, b4⟩
    have c4 := c2.trans (b4.mono c2.size)
    clear b4 c2
    gi_wp2_with fail
    refine wpIn_wide.2 ?_
    refine wp_gen ?_
    intro a0 W5 ha0 hW5
    have hsz : a0.tmps.size = 99 := by rw [ha0]; rfl
    have ev0 : a0.eval (.tmp 0) = .string h := by rw [ha0]; rfl
    have ev1 : a0.eval (.tmp 1) = .string f := by rw [ha0]; rfl
    have ev2 : a0.eval (.tmp 2) = .string r := by rw [ha0]; rfl
    have ev3 : a0.eval (.tmp 3) = .slice Ab nb cb := by rw [ha0]; rfl
    have ev13 : a0.eval (.tmp 13) = .pointer (some ⟨w4.heap.size + 1, 0, none⟩) := by rw [ha0]; rfl
    have hB13 : Boxed W5 (w4.heap.size + 1) 48 FN := by
      have := Boxed.new (w4.alloc (.cells #[.slice none 0 0] 22)) 48 FN
      rw [alloc_size] at this
      rw [hW5]
      exact this
    have hB12 : Boxed W5 w4.heap.size 22 (.slice none 0 0) := by rw [hW5]; exact (Boxed.new w4 22 (.slice none 0 0)).alloc _
    have hb2 : Below w.heap.size w ((w.alloc (.cells #[.slice none 0 0] 22)).alloc (.cells #[.int .i64 0] 3)) := ((Below.refl _ w).alloc (Nat.le_refl _) _).alloc (by simp) _
    have hs2 : ((w.alloc (.cells #[.slice none 0 0] 22)).alloc (.cells #[.int .i64 0] 3)).heap.size = w.heap.size + 2 := by rw [alloc_size, alloc_size]
    have hB10 : Boxed w4 w.heap.size 22 (.slice none 0 0) := (c4.block w.heap.size (by rw [hs2]; omega)).trans ((Boxed.new w 22 (.slice none 0 0)).alloc (.cells #[.int .i64 0] 3))
    have hB11 : Boxed w4 (w.heap.size + 1) 3 (.int .i64 0) := by
      have := Boxed.new (w.alloc (.cells #[.slice none 0 0] 22)) 3 (.int .i64 0)
      rw [alloc_size] at this
      exact (c4.block (w.heap.size + 1) (by rw [hs2]; omega)).trans this
    have hs4 : w.heap.size + 2 ≤ w4.heap.size := by rw [← hs2]; exact c4.size
    have hw4 : Below w.heap.size w w4 := hb2.trans (c4.mono (by rw [hs2]; omega))
    have h45 : Below w4.heap.size w4 W5 := by rw [hW5]; exact ((Below.refl _ _).alloc (Nat.le_refl _) _).alloc (by simp) _
    have hWm : Below w.heap.size w W5 := hw4.trans (h45.mono (by omega))
    have hs5 : W5.heap.size = w4.heap.size + 2 := by rw [hW5, alloc_size, alloc_size]
    have HB10 := Lib.hid (boxed_below hB10 h45)
    have HB11 := Lib.hid (boxed_below hB11 h45)
    have HB12 := Lib.hid hB12
    have HB13 := Lib.hid hB13
    have HA0 := Lib.hid ha0
    clear hB10 hB11 hB12 hB13 hb2 hs2 c4 hw4 h45 ha0 hW5
    refine wp_region_inv (P := Try.prog) (by kernel_rfl) (by kernel_rfl) (InvX ⟨h, f, r, .slice Ab nb cb, EF, 0⟩ W5.heap.size W5 a0) ?h0 ?hdone ?hstep
    case h0 => exact ⟨_, (mkA_self a0 DS).symm, rfl, (Mine.refl W5).drew, fun _ i hi h => absurd ((rep_false _ _).symm.trans h) (by decide), fun h => absurd ((rep_true _ 30 (by decide)).symm.trans h) (by decide)⟩
    case hstep =>
      intro listed a1 w1 i o ⟨x, hx, hs, hm, hR0, hF0⟩ ho hl hw
      subst hx
      have hi31 : i < 31 := (Array.getElem?_eq_some_iff.1 ho).1
      have h30 : listed.getD 30 true = false := by
        cases h : listed.getD 30 true with
        | false => rfl
        | true => have := (hF0 h).2 i hi31; rw [hl] at this; cases this
      have hR := hR0 h30
      have hB13 := boxed_below HB13.out hm.bel
      clear hR0 hF0
      rcases (by omega : i = 0 ∨ i = 1 ∨ i = 2 ∨ i = 3 ∨ i = 4 ∨ i = 5 ∨ i = 6 ∨ i = 7 ∨ i = 8 ∨ i = 9 ∨ i = 10 ∨ i = 11 ∨ i = 12 ∨ i = 13 ∨ i = 14 ∨ i = 15 ∨ i = 16 ∨ i = 17 ∨ i = 18 ∨ i = 19 ∨ i = 20 ∨ i = 21 ∨ i = 22 ∨ i = 23 ∨ i = 24 ∨ i = 25 ∨ i = 26 ∨ i = 27 ∨ i = 28 ∨ i = 29 ∨ i = 30) with rfl | rfl | rfl | rfl | rfl | rfl | rfl | rfl | rfl | rfl | rfl | rfl | rfl | rfl | rfl | rfl | rfl | rfl | rfl | rfl | rfl | rfl | rfl | rfl | rfl | rfl | rfl | rfl | rfl | rfl | rfl
      · obtain rfl := Option.some.inj ho
        clear ho hl
        refine wpOp_value rfl rfl (x_load w1 _ _ _ _ _ rfl ((mkA_evalN a0 DS x 13 (by decide)).trans ev13) hB13) (InvX.put hs hm h30 hR 0 (by decide) 34 rfl _ (Below.refl _ _) (rfl))
      · obtain rfl := Option.some.inj ho
        clear ho hl
        refine wpOp_value rfl rfl (x_move w1 _ _ _ _ rfl ((mkA_evalN a0 DS x 0 (by decide)).trans ev0)) (InvX.put hs hm h30 hR 1 (by decide) 35 rfl _ (Below.refl _ _) (rfl))
      · obtain rfl := Option.some.inj ho
        clear ho hl
        have r1 := hR 1 (by decide) (hw ⟨1, .data⟩ (by simp) rfl)
        change Rl _ _ 1 (x 35) _ at r1
        refine wpOp_value rfl rfl (x_texts2 w1 _ _ _ _ ⟨#[69, 72, 76, 79, 32]⟩ _ rfl rfl ((evS (X := ⟨h, f, r, .slice Ab nb cb, EF, 0⟩) a0 x 35 (by decide) hsz (by decide)).trans r1)) (InvX.put hs hm h30 hR 2 (by decide) 36 rfl _ ((Below.refl _ _).alloc (Nat.le_refl _) _) (TS_lit2 w1 _ _))
      · obtain rfl := Option.some.inj ho
        clear ho hl
        have r0 := hR 0 (by decide) (hw ⟨0, .data⟩ (by simp) rfl)
        change Rl _ _ 0 (x 34) _ at r0
        have r2 := hR 2 (by decide) (hw ⟨2, .data⟩ (by simp) rfl)
        change Rl _ _ 2 (x 36) _ at r2
        refine wpOp_enter rfl rfl (x_say w1 _ _ _ _ _ _ rfl ((evS (X := ⟨h, f, r, .slice Ab nb cb, EF, 0⟩) a0 x 34 (by decide) hsz (by decide)).trans r0) (evS (X := ⟨h, f, r, .slice Ab nb cb, EF, 0⟩) a0 x 36 (by decide) hsz (by decide))) ?_
        refine (say_any _ _ w1 HSZ0.out r2).mono ?_
        rintro e w2 ⟨u, rfl, ho, hb⟩
        rw [HSE0.out] at ho
        exact ⟨u, rfl, InvX.put hs hm h30 hR 3 (by decide) 37 rfl _ hb (OB.mono ho hm.le)⟩
      · obtain rfl := Option.some.inj ho
        clear ho hl
        have r3 := hR 3 (by decide) (hw ⟨3, .data⟩ (by simp) rfl)
        change Rl _ _ 3 (x 37) _ at r3
        have f3 := OB.form_slice r3
        refine wpOp_value rfl rfl (x_step w1 _ _ _ 220 220 _ rfl (evS (X := ⟨h, f, r, .slice Ab nb cb, EF, 0⟩) a0 x 37 (by decide) hsz (by decide)) rfl rfl f3) (InvX.put hs hm h30 hR 4 (by decide) 38 rfl _ (Below.refl _ _) ⟨_, rfl, r3⟩)
      · obtain rfl := Option.some.inj ho
        clear ho hl
        refine wpOp_value rfl rfl (x_load w1 _ _ _ _ _ rfl ((mkA_evalN a0 DS x 13 (by decide)).trans ev13) hB13) (InvX.put hs hm h30 hR 5 (by decide) 39 rfl _ (Below.refl _ _) (rfl))
      · obtain rfl := Option.some.inj ho
        clear ho hl
        refine wpOp_value rfl rfl (x_move w1 _ _ _ _ rfl ((mkA_evalN a0 DS x 1 (by decide)).trans ev1)) (InvX.put hs hm h30 hR 6 (by decide) 40 rfl _ (Below.refl _ _) (rfl))
      · obtain rfl := Option.some.inj ho
        clear ho hl
        have r6 := hR 6 (by decide) (hw ⟨6, .data⟩ (by simp) rfl)
        change Rl _ _ 6 (x 40) _ at r6
        refine wpOp_enter rfl rfl (x_fun w1 _ _ 42 _ _ _ rfl rfl ((evS (X := ⟨h, f, r, .slice Ab nb cb, EF, 0⟩) a0 x 40 (by decide) hsz (by decide)).trans r6) (enters_of Try.func42 (by kernel_rfl) rfl)) ?_
        refine (show_any f (by omega) w1).mono ?_
        rintro e w2 ⟨rfl, rfl⟩
        exact ⟨_, rfl, InvX.put hs hm h30 hR 7 (by decide) 41 rfl _ (Below.refl _ _) rfl⟩
      · obtain rfl := Option.some.inj ho
        clear ho hl
        have r7 := hR 7 (by decide) (hw ⟨7, .data⟩ (by simp) rfl)
        change Rl _ _ 7 (x 41) _ at r7
        refine wpOp_value rfl rfl (x_texts2 w1 _ _ _ _ ⟨#[77, 65, 73, 76, 32, 70, 82, 79, 77, 58]⟩ _ rfl rfl ((evS (X := ⟨h, f, r, .slice Ab nb cb, EF, 0⟩) a0 x 41 (by decide) hsz (by decide)).trans r7)) (InvX.put hs hm h30 hR 8 (by decide) 42 rfl _ ((Below.refl _ _).alloc (Nat.le_refl _) _) (TS_lit2 w1 _ _))
      · obtain rfl := Option.some.inj ho
        clear ho hl
        have r5 := hR 5 (by decide) (hw ⟨5, .data⟩ (by simp) rfl)
        change Rl _ _ 5 (x 39) _ at r5
        have r8 := hR 8 (by decide) (hw ⟨8, .data⟩ (by simp) rfl)
        change Rl _ _ 8 (x 42) _ at r8
        refine wpOp_enter rfl rfl (x_say w1 _ _ _ _ _ _ rfl ((evS (X := ⟨h, f, r, .slice Ab nb cb, EF, 0⟩) a0 x 39 (by decide) hsz (by decide)).trans r5) (evS (X := ⟨h, f, r, .slice Ab nb cb, EF, 0⟩) a0 x 42 (by decide) hsz (by decide))) ?_
        refine (say_any _ _ w1 HSZ1.out r8).mono ?_
        rintro e w2 ⟨u, rfl, ho, hb⟩
        rw [HSE1.out] at ho
        exact ⟨u, rfl, InvX.put hs hm h30 hR 9 (by decide) 43 rfl _ hb (OB.mono ho hm.le)⟩
      · obtain rfl := Option.some.inj ho
        clear ho hl
        have r9 := hR 9 (by decide) (hw ⟨9, .data⟩ (by simp) rfl)
        change Rl _ _ 9 (x 43) _ at r9
        have f9 := OB.form_slice r9
        refine wpOp_value rfl rfl (x_step w1 _ _ _ 250 250 _ rfl (evS (X := ⟨h, f, r, .slice Ab nb cb, EF, 0⟩) a0 x 43 (by decide) hsz (by decide)) rfl rfl f9) (InvX.put hs hm h30 hR 10 (by decide) 44 rfl _ (Below.refl _ _) ⟨_, rfl, r9⟩)
      · obtain rfl := Option.some.inj ho
        clear ho hl
        refine wpOp_value rfl rfl (x_load w1 _ _ _ _ _ rfl ((mkA_evalN a0 DS x 13 (by decide)).trans ev13) hB13) (InvX.put hs hm h30 hR 11 (by decide) 45 rfl _ (Below.refl _ _) (rfl))
      · obtain rfl := Option.some.inj ho
        clear ho hl
        refine wpOp_value rfl rfl (x_move w1 _ _ _ _ rfl ((mkA_evalN a0 DS x 2 (by decide)).trans ev2)) (InvX.put hs hm h30 hR 12 (by decide) 46 rfl _ (Below.refl _ _) (rfl))
      · obtain rfl := Option.some.inj ho
        clear ho hl
        have r12 := hR 12 (by decide) (hw ⟨12, .data⟩ (by simp) rfl)
        change Rl _ _ 12 (x 46) _ at r12
        refine wpOp_enter rfl rfl (x_fun w1 _ _ 42 _ _ _ rfl rfl ((evS (X := ⟨h, f, r, .slice Ab nb cb, EF, 0⟩) a0 x 46 (by decide) hsz (by decide)).trans r12) (enters_of Try.func42 (by kernel_rfl) rfl)) ?_
        refine (show_any r (by omega) w1).mono ?_
        rintro e w2 ⟨rfl, rfl⟩
        exact ⟨_, rfl, InvX.put hs hm h30 hR 13 (by decide) 47 rfl _ (Below.refl _ _) rfl⟩
      · obtain rfl := Option.some.inj ho
        clear ho hl
        have r13 := hR 13 (by decide) (hw ⟨13, .data⟩ (by simp) rfl)
        change Rl _ _ 13 (x 47) _ at r13
        refine wpOp_value rfl rfl (x_texts2 w1 _ _ _ _ ⟨#[82, 67, 80, 84, 32, 84, 79, 58]⟩ _ rfl rfl ((evS (X := ⟨h, f, r, .slice Ab nb cb, EF, 0⟩) a0 x 47 (by decide) hsz (by decide)).trans r13)) (InvX.put hs hm h30 hR 14 (by decide) 48 rfl _ ((Below.refl _ _).alloc (Nat.le_refl _) _) (TS_lit2 w1 _ _))
      · obtain rfl := Option.some.inj ho
        clear ho hl
        have r11 := hR 11 (by decide) (hw ⟨11, .data⟩ (by simp) rfl)
        change Rl _ _ 11 (x 45) _ at r11
        have r14 := hR 14 (by decide) (hw ⟨14, .data⟩ (by simp) rfl)
        change Rl _ _ 14 (x 48) _ at r14
        refine wpOp_enter rfl rfl (x_say w1 _ _ _ _ _ _ rfl ((evS (X := ⟨h, f, r, .slice Ab nb cb, EF, 0⟩) a0 x 45 (by decide) hsz (by decide)).trans r11) (evS (X := ⟨h, f, r, .slice Ab nb cb, EF, 0⟩) a0 x 48 (by decide) hsz (by decide))) ?_
        refine (say_any _ _ w1 HSZ2.out r14).mono ?_
        rintro e w2 ⟨u, rfl, ho, hb⟩
        rw [HSE2.out] at ho
        exact ⟨u, rfl, InvX.put hs hm h30 hR 15 (by decide) 49 rfl _ hb (OB.mono ho hm.le)⟩
      · obtain rfl := Option.some.inj ho
        clear ho hl
        have r15 := hR 15 (by decide) (hw ⟨15, .data⟩ (by simp) rfl)
        change Rl _ _ 15 (x 49) _ at r15
        have f15 := OB.form_slice r15
        refine wpOp_value rfl rfl (x_step w1 _ _ _ 250 250 _ rfl (evS (X := ⟨h, f, r, .slice Ab nb cb, EF, 0⟩) a0 x 49 (by decide) hsz (by decide)) rfl rfl f15) (InvX.put hs hm h30 hR 16 (by decide) 50 rfl _ (Below.refl _ _) ⟨_, rfl, r15⟩)
      · obtain rfl := Option.some.inj ho
        clear ho hl
        refine wpOp_value rfl rfl (x_load w1 _ _ _ _ _ rfl ((mkA_evalN a0 DS x 13 (by decide)).trans ev13) hB13) (InvX.put hs hm h30 hR 17 (by decide) 51 rfl _ (Below.refl _ _) (rfl))
      · obtain rfl := Option.some.inj ho
        clear ho hl
        refine wpOp_value rfl rfl (x_texts1 w1 _ _ _ ⟨#[68, 65, 84, 65]⟩ rfl rfl) (InvX.put hs hm h30 hR 18 (by decide) 52 rfl _ ((Below.refl _ _).alloc (Nat.le_refl _) _) (TS_lit1 w1 _))
      · obtain rfl := Option.some.inj ho
        clear ho hl
        have r17 := hR 17 (by decide) (hw ⟨17, .data⟩ (by simp) rfl)
        change Rl _ _ 17 (x 51) _ at r17
        have r18 := hR 18 (by decide) (hw ⟨18, .data⟩ (by simp) rfl)
        change Rl _ _ 18 (x 52) _ at r18
        refine wpOp_enter rfl rfl (x_say w1 _ _ _ _ _ _ rfl ((evS (X := ⟨h, f, r, .slice Ab nb cb, EF, 0⟩) a0 x 51 (by decide) hsz (by decide)).trans r17) (evS (X := ⟨h, f, r, .slice Ab nb cb, EF, 0⟩) a0 x 52 (by decide) hsz (by decide))) ?_
        refine (say_any _ _ w1 HSZ3.out r18).mono ?_
        rintro e w2 ⟨u, rfl, ho, hb⟩
        rw [HSE3.out] at ho
        exact ⟨u, rfl, InvX.put hs hm h30 hR 19 (by decide) 53 rfl _ hb (OB.mono ho hm.le)⟩
      · obtain rfl := Option.some.inj ho
        clear ho hl
        have r19 := hR 19 (by decide) (hw ⟨19, .data⟩ (by simp) rfl)
        change Rl _ _ 19 (x 53) _ at r19
        have f19 := OB.form_slice r19
        refine wpOp_value rfl rfl (x_step w1 _ _ _ 250 251 _ rfl (evS (X := ⟨h, f, r, .slice Ab nb cb, EF, 0⟩) a0 x 53 (by decide) hsz (by decide)) rfl rfl f19) (InvX.put hs hm h30 hR 20 (by decide) 54 rfl _ (Below.refl _ _) ⟨_, rfl, r19⟩)
      · obtain rfl := Option.some.inj ho
        clear ho hl
        refine wpOp_value rfl rfl (x_move w1 _ _ _ _ rfl ((mkA_evalN a0 DS x 3 (by decide)).trans ev3)) (InvX.put hs hm h30 hR 21 (by decide) 55 rfl _ (Below.refl _ _) (rfl))
      · obtain rfl := Option.some.inj ho
        clear ho hl
        have r21 := hR 21 (by decide) (hw ⟨21, .data⟩ (by simp) rfl)
        change Rl _ _ 21 (x 55) _ at r21
        refine wpOp_enter rfl rfl (x_fun w1 _ _ 43 _ _ _ rfl rfl ((evS (X := ⟨h, f, r, .slice Ab nb cb, EF, 0⟩) a0 x 55 (by decide) hsz (by decide)).trans r21) (enters_of Try.func43 (by kernel_rfl) rfl)) ?_
        refine (stuff_any _ b w1 (by have := HNB.out; have := HNBE.out; omega) (HML.out.below (hWm.trans (hm.bel.mono hWm.size))) (HB.out.below (hWm.trans (hm.bel.mono hWm.size)))).mono ?_
        rintro e w2 ⟨u, rfl, ho, hb⟩
        rw [HE4.out] at ho
        exact ⟨u, rfl, InvX.put hs hm h30 hR 22 (by decide) 56 rfl _ hb (OB.mono ho hm.le)⟩
      · obtain rfl := Option.some.inj ho
        clear ho hl
        have r22 := hR 22 (by decide) (hw ⟨22, .data⟩ (by simp) rfl)
        change Rl _ _ 22 (x 56) _ at r22
        have f22 := OB.form_slice r22
        refine wpOp_value rfl rfl (x_step w1 _ _ _ 354 354 _ rfl (evS (X := ⟨h, f, r, .slice Ab nb cb, EF, 0⟩) a0 x 56 (by decide) hsz (by decide)) rfl rfl f22) (InvX.put hs hm h30 hR 23 (by decide) 57 rfl _ (Below.refl _ _) ⟨_, rfl, r22⟩)
      · obtain rfl := Option.some.inj ho
        clear ho hl
        refine wpOp_value rfl rfl (x_load w1 _ _ _ _ _ rfl ((mkA_evalN a0 DS x 13 (by decide)).trans ev13) hB13) (InvX.put hs hm h30 hR 24 (by decide) 58 rfl _ (Below.refl _ _) (rfl))
      · obtain rfl := Option.some.inj ho
        clear ho hl
        refine wpOp_value rfl rfl (x_texts1 w1 _ _ _ ⟨#[81, 85, 73, 84]⟩ rfl rfl) (InvX.put hs hm h30 hR 25 (by decide) 59 rfl _ ((Below.refl _ _).alloc (Nat.le_refl _) _) (TS_lit1 w1 _))
      · obtain rfl := Option.some.inj ho
        clear ho hl
        have r24 := hR 24 (by decide) (hw ⟨24, .data⟩ (by simp) rfl)
        change Rl _ _ 24 (x 58) _ at r24
        have r25 := hR 25 (by decide) (hw ⟨25, .data⟩ (by simp) rfl)
        change Rl _ _ 25 (x 59) _ at r25
        refine wpOp_enter rfl rfl (x_say w1 _ _ _ _ _ _ rfl ((evS (X := ⟨h, f, r, .slice Ab nb cb, EF, 0⟩) a0 x 58 (by decide) hsz (by decide)).trans r24) (evS (X := ⟨h, f, r, .slice Ab nb cb, EF, 0⟩) a0 x 59 (by decide) hsz (by decide))) ?_
        refine (say_any _ _ w1 HSZ5.out r25).mono ?_
        rintro e w2 ⟨u, rfl, ho, hb⟩
        rw [HSE5.out] at ho
        exact ⟨u, rfl, InvX.put hs hm h30 hR 26 (by decide) 60 rfl _ hb (OB.mono ho hm.le)⟩
      · obtain rfl := Option.some.inj ho
        clear ho hl
        have r26 := hR 26 (by decide) (hw ⟨26, .data⟩ (by simp) rfl)
        change Rl _ _ 26 (x 60) _ at r26
        have f26 := OB.form_slice r26
        refine wpOp_value rfl rfl (x_step w1 _ _ _ 250 250 _ rfl (evS (X := ⟨h, f, r, .slice Ab nb cb, EF, 0⟩) a0 x 60 (by decide) hsz (by decide)) rfl rfl f26) (InvX.put hs hm h30 hR 27 (by decide) 61 rfl _ (Below.refl _ _) ⟨_, rfl, r26⟩)
      · obtain rfl := Option.some.inj ho
        clear ho hl
        have r4 := hR 4 (by decide) (hw ⟨4, .data⟩ (by simp) rfl)
        change Rl _ _ 4 (x 38) _ at r4
        have r10 := hR 10 (by decide) (hw ⟨10, .data⟩ (by simp) rfl)
        change Rl _ _ 10 (x 44) _ at r10
        have r16 := hR 16 (by decide) (hw ⟨16, .data⟩ (by simp) rfl)
        change Rl _ _ 16 (x 50) _ at r16
        have r20 := hR 20 (by decide) (hw ⟨20, .data⟩ (by simp) rfl)
        change Rl _ _ 20 (x 54) _ at r20
        have r23 := hR 23 (by decide) (hw ⟨23, .data⟩ (by simp) rfl)
        change Rl _ _ 23 (x 57) _ at r23
        have r27 := hR 27 (by decide) (hw ⟨27, .data⟩ (by simp) rfl)
        change Rl _ _ 27 (x 61) _ at r27
        obtain ⟨u0, q0, o0⟩ := r4
        obtain ⟨u1, q1, o1⟩ := r10
        obtain ⟨u2, q2, o2⟩ := r16
        obtain ⟨u3, q3, o3⟩ := r20
        obtain ⟨u4, q4, o4⟩ := r23
        obtain ⟨u5, q5, o5⟩ := r27
        refine wpOp_value rfl rfl (x_steps w1 _ _ (fun k => Operand.tmp ([38, 44, 50, 54, 57, 61].getD k 0)) (fun k => [u0, u1, u2, u3, u4, u5].getD k undef) rfl ((evS (X := ⟨h, f, r, .slice Ab nb cb, EF, 0⟩) a0 x 38 (by decide) hsz (by decide)).trans q0) ((evS (X := ⟨h, f, r, .slice Ab nb cb, EF, 0⟩) a0 x 44 (by decide) hsz (by decide)).trans q1) ((evS (X := ⟨h, f, r, .slice Ab nb cb, EF, 0⟩) a0 x 50 (by decide) hsz (by decide)).trans q2) ((evS (X := ⟨h, f, r, .slice Ab nb cb, EF, 0⟩) a0 x 54 (by decide) hsz (by decide)).trans q3) ((evS (X := ⟨h, f, r, .slice Ab nb cb, EF, 0⟩) a0 x 57 (by decide) hsz (by decide)).trans q4) ((evS (X := ⟨h, f, r, .slice Ab nb cb, EF, 0⟩) a0 x 61 (by decide) hsz (by decide)).trans q5)) (InvX.put hs hm h30 hR 28 (by decide) 62 rfl _ ((Below.refl _ _).alloc (Nat.le_refl _) _) ⟨w1.heap.size, (fun k => [u0, u1, u2, u3, u4, u5].getD k undef), rfl, Row.new w1 _ _, hm.le, ?_⟩)
        intro k hk
        rcases (by omega : k = 0 ∨ k = 1 ∨ k = 2 ∨ k = 3 ∨ k = 4 ∨ k = 5) with rfl | rfl | rfl | rfl | rfl | rfl
        · exact o0.below ((Below.refl _ _).alloc (Nat.le_refl _) _)
        · exact o1.below ((Below.refl _ _).alloc (Nat.le_refl _) _)
        · exact o2.below ((Below.refl _ _).alloc (Nat.le_refl _) _)
        · exact o3.below ((Below.refl _ _).alloc (Nat.le_refl _) _)
        · exact o4.below ((Below.refl _ _).alloc (Nat.le_refl _) _)
        · exact o5.below ((Below.refl _ _).alloc (Nat.le_refl _) _)
      · obtain rfl := Option.some.inj ho
        clear ho hl
        refine wpOp_value rfl rfl (x_var w1 _ _ rfl) (InvX.put hs hm h30 hR 29 (by decide) 14 rfl _ ((Below.refl _ _).alloc (Nat.le_refl _) _) (⟨w1.heap.size, rfl, Boxed.new w1 _ _, hm.le⟩))
      · obtain rfl := Option.some.inj ho
        clear ho hl
        have r28 := hR 28 (by decide) (hw ⟨28, .data⟩ (by simp) rfl)
        change Rl _ _ 28 (x 62) _ at r28
        have r29 := hR 29 (by decide) (hw ⟨29, .data⟩ (by simp) rfl)
        change Rl _ _ 29 (x 14) _ at r29
        obtain ⟨g2, us, q28, hrow, hg2, hus⟩ := r28
        obtain ⟨g, q29, hbx, hg⟩ := r29
        refine wpOp_skip rfl rfl (x_store w1 _ _ _ _ g (.slice (some ⟨g2, 0, none⟩) 6 6) _ rfl ((evS (X := ⟨h, f, r, .slice Ab nb cb, EF, 0⟩) a0 x 14 (by decide) hsz (by decide)).trans q29) ((evS (X := ⟨h, f, r, .slice Ab nb cb, EF, 0⟩) a0 x 62 (by decide) hsz (by decide)).trans q28) ⟨_, _, _, rfl⟩ hbx) ?_
        have hne : g ≠ g2 := fun e => by subst e; exact Boxed.ne_row hbx hrow
        exact ⟨x, rfl, by simp [hs], ⟨by rw [size_set]; exact hm.le, hm.bel.setCell (p := ⟨g, 0, none⟩) hg _⟩, fun h => absurd h (by simp [hs]), fun _ => ⟨⟨g, g2, us, q29, hbx.set _, hg, hrow.other _ _ (fun e => hne e.symm), hg2, fun k hk => OB.setBox (hus k hk) hbx, hne⟩, fun j hj => by
          by_cases e : j = 30
          · subst e; simp [hs]
          · rw [getD_set_ne true (fun h => e h.symm)]
            exact listed_of hs hj (hw ⟨j, .phase⟩ (by rcases (by omega : j = 0 ∨ j = 1 ∨ j = 2 ∨ j = 3 ∨ j = 4 ∨ j = 5 ∨ j = 6 ∨ j = 7 ∨ j = 8 ∨ j = 9 ∨ j = 10 ∨ j = 11 ∨ j = 12 ∨ j = 13 ∨ j = 14 ∨ j = 15 ∨ j = 16 ∨ j = 17 ∨ j = 18 ∨ j = 19 ∨ j = 20 ∨ j = 21 ∨ j = 22 ∨ j = 23 ∨ j = 24 ∨ j = 25 ∨ j = 26 ∨ j = 27 ∨ j = 28 ∨ j = 29) with rfl | rfl | rfl | rfl | rfl | rfl | rfl | rfl | rfl | rfl | rfl | rfl | rfl | rfl | rfl | rfl | rfl | rfl | rfl | rfl | rfl | rfl | rfl | rfl | rfl | rfl | rfl | rfl | rfl | rfl <;> simp) rfl)⟩⟩
    case hdone =>
      intro listed a1 W6 hI hall
      obtain ⟨x, hx, -, hm6, -, hF⟩ := hI
      obtain ⟨⟨g14, g2, us, h14, hbx14, hg14, hrow, hg2, hus, hne⟩, -⟩ := hF (hall 30 (by decide))
      subst hx
      have ha0 := HA0.out
      subst ha0
      have HB10' := Lib.hid (boxed_belowN HB10.out hm6.bel)
      have HB11' := Lib.hid (boxed_belowN HB11.out hm6.bel)
      have HB12' := Lib.hid (boxed_belowN HB12.out hm6.bel)
      have HB13' := Lib.hid (boxed_belowN HB13.out hm6.bel)
      have hw6 : Below w.heap.size w W6 := hWm.trans (hm6.bel.mono hWm.size)
      have hs6 : W5.heap.size ≤ W6.heap.size := hm6.le
      simp only [mkA, setsA, DS, List.foldl_cons, List.foldl_nil, List.setIfInBounds_toArray, List.set_cons_zero, List.set_cons_succ, h14]
      obtain ⟨n₅, hn5⟩ : ∃ n, W5.heap.size = n := ⟨_, rfl⟩
      obtain ⟨n₁, hn1⟩ : ∃ n, W6.heap.size = n := ⟨_, rfl⟩
      obtain ⟨n₀, hn0⟩ : ∃ n, w.heap.size = n := ⟨_, rfl⟩
      obtain ⟨B12, hb12⟩ : ∃ n, w4.heap.size = n := ⟨_, rfl⟩
      have hsbk : ∀ j, j < 6 → ∀ r, (us j).ownBlock = some r → r < n₁ := fun j hj r hr => by have := (World.ownsRow.lt (hus j hj) r hr).2; omega
      have hg14l : g14 < n₁ := by have := hbx14.lt; omega
      have hg2l : g2 < n₁ := by have := hrow.lt; omega
      rw [hn5] at hus hg14 hg2 hs6 hs5
      rw [hn0] at hs4 hw6 HB10' HB11'
      rw [hb12] at HB12' HB13' hs4 hs5
      have hxi : XI n₀ n₁ n₅ B12 (B12 + 1) g14 g2 us EF w 0 6 [] (fun b => b < n₁) (W6.alloc (.cells #[.slice Am nm cm] 22)) (.slice none 0 0) := by
        have hba : Below W6.heap.size W6 (W6.alloc (.cells #[.slice Am nm cm] 22)) := (Below.refl _ _).alloc (Nat.le_refl _) _
        exact ⟨boxed_below HB10'.out hba, boxed_below HB11'.out hba, boxed_below HB12'.out hba, boxed_below HB13'.out hba, boxed_below hbx14 hba, hrow.belowS hba, World.ownsRow_nil _ _ _ _, fun j hj => (hus j hj).below hba, hsbk, fun b hb => hb, fun r hr => by simp [Value.ownBlock] at hr, hw6.trans (hba.mono (by omega)), by rw [alloc_size]; omega, ⟨by omega, by omega, by omega, hg14, hg2, hg14l, hg2l, hne⟩⟩
      have hseq := replies1_seq n₀ n₁ Am cm m (by have := HMM.out; omega) w (W6.alloc (.cells #[.slice Am nm cm] 22)) hn0 (by rw [← hn0]; rw [hn0]; exact hxi.bel) (by omega) HML.out (by rw [HNM.out]; exact HM.out) (by rw [HNM.out, ← hn1]; exact Boxed.new W6 _ _)
      have hsz7 : (W6.alloc (.cells #[.slice Am nm cm] 22)).heap.size = n₁ + 1 := by rw [alloc_size, hn1]
      have HXI := Lib.hid hxi
      have HSEQ := Lib.hid hseq
      have HPL := Lib.hid hxi.pl
      have hn01 : n₀ ≤ n₁ := by omega
      have hn02 : n₀ + 2 ≤ n₁ := by omega
      clear hF hall hxi hseq hsbk hus hbx14 hrow hg14 hg2 hne hw6 HB10' HB11' HB12' HB13' HB10 HB11 HB12 HB13 hg14l hg2l hs4 hs5 hs6 hm6 hWm ev0 ev1 ev2 ev3 ev13 hsz HA0
      gi_wp2_with fail
      refine ⟨trivial, rfl, (callsIn_wide.2 (replies_any _ _ _ _)).mono ?_⟩
      rintro e w7 ⟨rfl, rfl⟩
      gi_wp2_with fail
      refine wpIn_gen ?_
      intro aR WR haR hWR
      subst hWR
      refine wpIn_rangeFunc_D (gf := 71) (lb := #[.pointer (some ⟨n₁, 0, none⟩)]) (n₀ := n₀) (Enc := EncN) (xs := rps m) (by rw [haR]; rfl) (enters_of Try.func71 (by kernel_rfl) rfl)
        HSEQ.out (fun x az _ _ h => by cases h; rfl)
        (fun x az M W lp dk r o ds h h1 h2 => h) (by rw [hsz7]; omega) (Below.refl _ _)
        (fun b => b < n₁) (fun b h => by rw [hsz7]; omega) (fun b h => by subst h; exact ⟨by omega, by rw [hsz7]; omega, rfl⟩)
        (fun k D W => ∃ o L outL outv, (k < 6 ∧ o = 3 * k ∧ L = 6 - k ∧ outL.length ≤ k * 300000) ∧ Hid (exc (st.drop k) ((rps m).drop k) outL = R) ∧ XI n₀ n₁ n₅ B12 (B12 + 1) g14 g2 us EF w o L outL D W outv)
        (fun c k D W => c = .ret ∧ YI n₀ n₁ w R.1 R.2 D W) (fun k D W W' ⟨o, L, outL, outv, h1, h2, h3⟩ hk => ⟨o, L, outL, outv, h1, h2, h3.keep hk⟩) (fun c k D W W' ⟨h1, h2⟩ hk => ⟨h1, h2.keep hk⟩)
        ⟨0, 6, [], _, ⟨by omega, rfl, rfl, by simp⟩, HST, HXI.out⟩
        (fun az => { tmps := (aR.tmps.setIfInBounds 65 (az[0]?.getD undef)).setIfInBounds 15 (az[0]?.getD undef), defers := [] }) ?assign ?body ?done ?stop
      case assign =>
        rintro lp y az M W K hE hK
        have hE' : az = #[.int .i64 (y : Int)] := hE
        subst hE'
        subst haR
        simp only [List.setIfInBounds_toArray, List.set_cons_zero, List.set_cons_succ] at hK
        gi_wp2
        exact hK
      case body =>
        rintro lp k C az D M W hx hE ⟨o, L, outL, outv, ⟨hk6, ho, hL, hol⟩, hex, hin⟩ hDb hMD
        have hE' : az = #[.int .i64 (C : Int)] := hE
        subst hE'
        have hCr := rps_range m.length m (Nat.le_refl _) C (List.mem_of_getElem? hx)
        have hdrop : (rps m).drop k = C :: (rps m).drop (k + 1) := by
          have hk := (List.getElem?_eq_some_iff.1 hx).1
          rw [List.drop_eq_getElem_cons hk]
          rw [List.getElem?_eq_getElem hk] at hx
          cases hx
          rfl
        have hex2 := hex.out
        rw [hdrop, HDR.out k hk6] at hex2
        obtain ⟨x0, x1, x2⟩ := rowX_get us k hk6
        have c0 := hin.row.cell (3 * k)
        have c1 := hin.row.cell (3 * k + 1)
        have c2 := hin.row.cell (3 * k + 2)
        rw [x0, ← ho] at c0
        rw [x1, ← ho] at c1
        rw [x2, ← ho] at c2
        obtain ⟨lo, hlo⟩ : ∃ q, loF k = q := ⟨_, rfl⟩
        obtain ⟨hi, hhi⟩ : ∃ q, hiF k = q := ⟨_, rfl⟩
        obtain ⟨e, hee⟩ : ∃ q, EF k = q := ⟨_, rfl⟩
        have hel := HL6.out k hk6
        have hsnd := hin.snd k hk6
        have hep := HEPP.out k hk6
        rw [hlo] at c1 hex2
        rw [hhi] at c2 hex2
        rw [hee] at hel hsnd hex2 hep
        obtain ⟨Ak, nk, ck, hu⟩ := OB.form_slice hsnd
        rw [hu] at c0 hsnd
        obtain ⟨Ao, no, co, rfl⟩ := OB.form_slice hin.out
        have hba : Below W.heap.size W (W.alloc (.cells #[.slice Ak nk ck, .int .i64 (lo : Int), .int .i64 (hi : Int)] 50)) := (Below.refl _ _).alloc (Nat.le_refl _) _
        have h1 := hin.below hba
        have hsnd1 := hsnd.below hba
        have hc14 := hin.b14.cell
        have hf14 := hin.b14.frozen
        have hc12 := h1.b12.cell
        have hf12 := h1.b12.frozen
        have hc13 := h1.b13.cell
        have hd14 := h1.b14.cell
        have hg14' := h1.b14.frozen
        have L0 : 0 < L := by omega
        have L1 : (0 : Int) < (L : Int) := by omega
        obtain ⟨m', hm⟩ : ∃ q, q = L - 1 := ⟨_, rfl⟩
        have HMM' := Lib.hid hm
        have HIN := Lib.hid hin
        have H1 := Lib.hid h1
        have HSND := Lib.hid hsnd1
        have HBA := Lib.hid hba
        have HDB := Lib.hid hDb
        have HMD := Lib.hid hMD
        have HEX := Lib.hid hex2
        have HEL := Lib.hid hel
        have HEP := Lib.hid hep
        have HEE := Lib.hid hee
        have HOL : Hid (outL.length ≤ 10000000) := by show _ ≤ _; omega
        have HOL2 := Lib.hid hol
        have HKL : Hid (k < 6 ∧ o = 3 * k ∧ L = 6 - k) := ⟨hk6, ho, hL⟩
        clear hin h1 hsnd hsnd1 hba hDb hMD hex2 hex hel hep hee hdrop hx x0 x1 x2 hlo hhi hu hol ho hL hE
        subst haR
        simp only [List.setIfInBounds_toArray, List.set_cons_zero, List.set_cons_succ]
        rcases (by omega : C < lo ∨ (lo ≤ C ∧ hi < C) ∨ (lo ≤ C ∧ C ≤ hi)) with hc | hc | hc
        · have dClo : decide ((C : Int) < (lo : Int)) = true := decide_eq_true (by omega)
          have eClo : decide (C < lo) = true := decide_eq_true (by omega)
          by_cases h4 : C < 400
          · have HRES : Hid (R = (outL ++ quitL, 0)) := by show _ = _; have := HEX.out; rw [exc_bad _ _ _ _ _ (by simp only; omega), if_pos h4] at this; exact this.symm
            have d4 : decide (C < 400) = true := decide_eq_true h4
            have d4' : decide ((C : Int) < 400) = true := decide_eq_true (by omega)
            clear hc h4
            gi_wp2_with fail
            refine wpIn_gen ?_
            intro aQ WQ haQ hWQ
            subst hWQ
            refine quit_region (n₀ := n₀) (n₁ := n₁) (n₅ := n₅) (B12 := B12) (B13 := B12 + 1) (g14 := g14) (g2 := g2) (us := us) (EF := EF) (w00 := w) (o := o) (L := L) (outL := outL) (D := D) (M := M) (CV := 0) (outv := .slice Ao no co) rfl (by kernel_rfl) _ _ _ _ _ _ _ _ rfl rfl rfl rfl rfl rfl rfl rfl rfl rfl rfl _ rfl rfl rfl rfl rfl ⟨rfl, rfl, rfl, rfl, rfl, rfl, rfl, rfl⟩ ⟨rfl, rfl, rfl, rfl, rfl, rfl, rfl, rfl⟩ (by kernel_rfl) (by kernel_rfl) (by kernel_rfl) (by kernel_rfl) (by rw [haQ]; rfl) (by rw [haQ]; rfl) (by rw [haQ]; rfl) (by rw [haQ]; rfl) (by rw [haQ]; rfl) (by rw [haQ]; rfl) H1.out ⟨_, _, _, rfl⟩ (fun b hb => Nat.lt_of_lt_of_le (HDB.out b hb) HBA.out.size) (fun b hb => ⟨Nat.lt_of_lt_of_le (HMD.out b hb).1 HBA.out.size, (HMD.out b hb).2⟩) HOL.out ?_
            intro y w9 hz
            subst haQ
            simp only [mkA, setsA, QS, List.foldl_cons, List.foldl_nil, List.setIfInBounds_toArray, List.set_cons_zero, List.set_cons_succ]
            obtain ⟨D9, hD9, hK9, hY9⟩ := hz.post HIN.out HBA.out HMD.out
            have HD9 := Lib.hid hD9
            have HK9 := Lib.hid hK9
            have HY9 := Lib.hid hY9
            clear hD9 hK9 hY9 hz
            gi_wp2
            exact ⟨D9, HD9.out, HK9.out, rfl, by rw [HRES.out]; exact HY9.out⟩
          · have HRES : Hid (R = (outL ++ quitL, C)) := by show _ = _; have := HEX.out; rw [exc_bad _ _ _ _ _ (by simp only; omega), if_neg h4] at this; exact this.symm
            have d4 : decide (C < 400) = false := decide_eq_false h4
            have d4' : decide ((C : Int) < 400) = false := decide_eq_false (by omega)
            clear hc h4
            gi_wp2_with fail
            refine wpIn_gen ?_
            intro aQ WQ haQ hWQ
            subst hWQ
            refine quit_region (n₀ := n₀) (n₁ := n₁) (n₅ := n₅) (B12 := B12) (B13 := B12 + 1) (g14 := g14) (g2 := g2) (us := us) (EF := EF) (w00 := w) (o := o) (L := L) (outL := outL) (D := D) (M := M) (CV := C) (outv := .slice Ao no co) rfl (by kernel_rfl) _ _ _ _ _ _ _ _ rfl rfl rfl rfl rfl rfl rfl rfl rfl rfl rfl _ rfl rfl rfl rfl rfl ⟨rfl, rfl, rfl, rfl, rfl, rfl, rfl, rfl⟩ ⟨rfl, rfl, rfl, rfl, rfl, rfl, rfl, rfl⟩ (by kernel_rfl) (by kernel_rfl) (by kernel_rfl) (by kernel_rfl) (by rw [haQ]; rfl) (by rw [haQ]; rfl) (by rw [haQ]; rfl) (by rw [haQ]; rfl) (by rw [haQ]; rfl) (by rw [haQ]; rfl) H1.out ⟨_, _, _, rfl⟩ (fun b hb => Nat.lt_of_lt_of_le (HDB.out b hb) HBA.out.size) (fun b hb => ⟨Nat.lt_of_lt_of_le (HMD.out b hb).1 HBA.out.size, (HMD.out b hb).2⟩) HOL.out ?_
            intro y w9 hz
            subst haQ
            simp only [mkA, setsA, QS, List.foldl_cons, List.foldl_nil, List.setIfInBounds_toArray, List.set_cons_zero, List.set_cons_succ]
            obtain ⟨D9, hD9, hK9, hY9⟩ := hz.post HIN.out HBA.out HMD.out
            have HD9 := Lib.hid hD9
            have HK9 := Lib.hid hK9
            have HY9 := Lib.hid hY9
            clear hD9 hK9 hY9 hz
            gi_wp2
            exact ⟨D9, HD9.out, HK9.out, rfl, by rw [HRES.out]; exact HY9.out⟩
        · have dClo : decide ((C : Int) < (lo : Int)) = false := decide_eq_false (by omega)
          have eClo : decide (C < lo) = false := decide_eq_false (by omega)
          have dhiC : decide ((hi : Int) < (C : Int)) = true := decide_eq_true (by omega)
          have ehiC : decide (hi < C) = true := decide_eq_true (by omega)
          by_cases h4 : C < 400
          · have HRES : Hid (R = (outL ++ quitL, 0)) := by show _ = _; have := HEX.out; rw [exc_bad _ _ _ _ _ (by simp only; omega), if_pos h4] at this; exact this.symm
            have d4 : decide (C < 400) = true := decide_eq_true h4
            have d4' : decide ((C : Int) < 400) = true := decide_eq_true (by omega)
            clear hc h4
            gi_wp2_with fail
            refine wpIn_gen ?_
            intro aQ WQ haQ hWQ
            subst hWQ
            refine quit_region (n₀ := n₀) (n₁ := n₁) (n₅ := n₅) (B12 := B12) (B13 := B12 + 1) (g14 := g14) (g2 := g2) (us := us) (EF := EF) (w00 := w) (o := o) (L := L) (outL := outL) (D := D) (M := M) (CV := 0) (outv := .slice Ao no co) rfl (by kernel_rfl) _ _ _ _ _ _ _ _ rfl rfl rfl rfl rfl rfl rfl rfl rfl rfl rfl _ rfl rfl rfl rfl rfl ⟨rfl, rfl, rfl, rfl, rfl, rfl, rfl, rfl⟩ ⟨rfl, rfl, rfl, rfl, rfl, rfl, rfl, rfl⟩ (by kernel_rfl) (by kernel_rfl) (by kernel_rfl) (by kernel_rfl) (by rw [haQ]; rfl) (by rw [haQ]; rfl) (by rw [haQ]; rfl) (by rw [haQ]; rfl) (by rw [haQ]; rfl) (by rw [haQ]; rfl) H1.out ⟨_, _, _, rfl⟩ (fun b hb => Nat.lt_of_lt_of_le (HDB.out b hb) HBA.out.size) (fun b hb => ⟨Nat.lt_of_lt_of_le (HMD.out b hb).1 HBA.out.size, (HMD.out b hb).2⟩) HOL.out ?_
            intro y w9 hz
            subst haQ
            simp only [mkA, setsA, QS, List.foldl_cons, List.foldl_nil, List.setIfInBounds_toArray, List.set_cons_zero, List.set_cons_succ]
            obtain ⟨D9, hD9, hK9, hY9⟩ := hz.post HIN.out HBA.out HMD.out
            have HD9 := Lib.hid hD9
            have HK9 := Lib.hid hK9
            have HY9 := Lib.hid hY9
            clear hD9 hK9 hY9 hz
            gi_wp2
            exact ⟨D9, HD9.out, HK9.out, rfl, by rw [HRES.out]; exact HY9.out⟩
          · have HRES : Hid (R = (outL ++ quitL, C)) := by show _ = _; have := HEX.out; rw [exc_bad _ _ _ _ _ (by simp only; omega), if_neg h4] at this; exact this.symm
            have d4 : decide (C < 400) = false := decide_eq_false h4
            have d4' : decide ((C : Int) < 400) = false := decide_eq_false (by omega)
            clear hc h4
            gi_wp2_with fail
            refine wpIn_gen ?_
            intro aQ WQ haQ hWQ
            subst hWQ
            refine quit_region (n₀ := n₀) (n₁ := n₁) (n₅ := n₅) (B12 := B12) (B13 := B12 + 1) (g14 := g14) (g2 := g2) (us := us) (EF := EF) (w00 := w) (o := o) (L := L) (outL := outL) (D := D) (M := M) (CV := C) (outv := .slice Ao no co) rfl (by kernel_rfl) _ _ _ _ _ _ _ _ rfl rfl rfl rfl rfl rfl rfl rfl rfl rfl rfl _ rfl rfl rfl rfl rfl ⟨rfl, rfl, rfl, rfl, rfl, rfl, rfl, rfl⟩ ⟨rfl, rfl, rfl, rfl, rfl, rfl, rfl, rfl⟩ (by kernel_rfl) (by kernel_rfl) (by kernel_rfl) (by kernel_rfl) (by rw [haQ]; rfl) (by rw [haQ]; rfl) (by rw [haQ]; rfl) (by rw [haQ]; rfl) (by rw [haQ]; rfl) (by rw [haQ]; rfl) H1.out ⟨_, _, _, rfl⟩ (fun b hb => Nat.lt_of_lt_of_le (HDB.out b hb) HBA.out.size) (fun b hb => ⟨Nat.lt_of_lt_of_le (HMD.out b hb).1 HBA.out.size, (HMD.out b hb).2⟩) HOL.out ?_
            intro y w9 hz
            subst haQ
            simp only [mkA, setsA, QS, List.foldl_cons, List.foldl_nil, List.setIfInBounds_toArray, List.set_cons_zero, List.set_cons_succ]
            obtain ⟨D9, hD9, hK9, hY9⟩ := hz.post HIN.out HBA.out HMD.out
            have HD9 := Lib.hid hD9
            have HK9 := Lib.hid hK9
            have HY9 := Lib.hid hY9
            clear hD9 hK9 hY9 hz
            gi_wp2
            exact ⟨D9, HD9.out, HK9.out, rfl, by rw [HRES.out]; exact HY9.out⟩
        · have dClo : decide ((C : Int) < (lo : Int)) = false := decide_eq_false (by omega)
          have eClo : decide (C < lo) = false := decide_eq_false (by omega)
          have dhiC : decide ((hi : Int) < (C : Int)) = false := decide_eq_false (by omega)
          have ehiC : decide (hi < C) = false := decide_eq_false (by omega)
          obtain ⟨kk6, ko, kL⟩ := HKL.out
          by_cases hL1 : L = 1
          · have ks := fun w => slice_steps g2 o L (by omega) m' hm w
            simp only [if_pos hL1] at ks
            have m0 : ((m' : Int) == 0) = true := by simp; omega
            have m0' : (m' == 0) = true := by simp; omega
            have hlast : Hid (R = (outL ++ e, C)) := by
              have h6 : st.drop (k + 1) = [] := by rw [show k + 1 = 6 by omega]; exact HD6.out
              have := HEX.out
              rw [h6, exc_last _ _ _ _ hc] at this
              exact this.symm
            clear hc hm ko kL kk6 hL1
            gi_wp2_with (gi_at_builtin; go_loud (refine wpBI_append rfl _ _ rfl (n₁ + 1) (.slice Ao no co) _ outL e rfl H1.out.out rfl HSND.out.reads HEP.out (by have := HOL.out; have := HEL.out; omega) H1.out.sz ?_; intro v5 w5 hown5 hgrow5 hnew5; obtain ⟨out2, hout2⟩ : ∃ q, outL ++ e = q := ⟨_, rfl⟩; rw [hout2] at hown5; have HOUT2 := Lib.hid hout2; have hlen2 := congrArg List.length hout2; rw [List.length_append] at hlen2; have HLEN2 := Lib.hid hlen2; obtain ⟨A5, c5, rfl, -, -, -⟩ := hown5.reads.form; obtain ⟨n5', hn5'⟩ : ∃ q, out2.length = q := ⟨_, rfl⟩; rw [hn5'] at hown5 hnew5 ⊢; obtain ⟨k1, k2, k3, k4, k5, k6, k7, k8, k9⟩ := H1.out.grown (fun b hb => Nat.lt_of_lt_of_le (HDB.out b hb) HBA.out.size) hown5 hgrow5 hnew5; have k3c := k3.cell; have k3f := k3.frozen; have k5' := boxed_set_other (u := .slice A5 n5' c5) k5 (show g14 ≠ B12 by have := HPL.out; omega); have k5c := k5'.cell; have k5f := k5'.frozen; obtain ⟨D5, hD5, hK5, hX5⟩ := H1.out.step (o' := o) (L' := m') (M := M) (fun b hb => Nat.lt_of_lt_of_le (HDB.out b hb) HBA.out.size) (fun b hb => ⟨Nat.lt_of_lt_of_le (HMD.out b hb).1 HBA.out.size, (HMD.out b hb).2⟩) hown5 hgrow5 hnew5; have q12 := hX5.b12.cell; have q10f := hX5.b10.frozen; have q10c := hX5.b10.cell; have q11 := boxed_set_other (u := .slice A5 n5' c5) hX5.b11 (show n₀ + 1 ≠ n₀ by omega); have q11c := q11.cell; have q11f := q11.frozen; have HD5 := Lib.hid hD5; have HK5 := Lib.hid ((KeepOn.of_below (n₀ := n₀) (D := M) HBA.out).trans hK5); have HX5 := Lib.hid hX5; clear hown5 hgrow5 hnew5 k1 k2 k3 k4 k5 k6 k7 k8 k9 k5' hout2 hlen2 hD5 hK5 hX5 q11))
            rw [HOUT2.out] at hlast
            obtain ⟨hy, hky⟩ := HX5.out.fin C
            exact ⟨D5, fun b hb => by rw [size_set, size_set]; exact HD5.out b hb, HK5.out.trans (hky M (fun b hm hd => (HD5.out b hd).2 hm)), rfl, by rw [hlast.out]; exact hy⟩
          · have ks := fun w => slice_steps g2 o L (by omega) m' hm w
            simp only [if_neg hL1] at ks
            have m0 : ((m' : Int) == 0) = false := by simp; omega
            have m0' : (m' == 0) = false := by simp; omega
            have hnext : Hid (exc (st.drop (k + 1)) ((rps m).drop (k + 1)) (outL ++ e) = R) := by
              have h6 := HDR.out (k + 1) (by omega)
              have := HEX.out
              rw [h6, exc_ok _ _ _ _ _ _ hc, ← h6] at this
              exact this
            clear hc hm ko kL kk6
            gi_wp2_with (gi_at_builtin; go_loud (refine wpBI_append rfl _ _ rfl (n₁ + 1) (.slice Ao no co) _ outL e rfl H1.out.out rfl HSND.out.reads HEP.out (by have := HOL.out; have := HEL.out; omega) H1.out.sz ?_; intro v5 w5 hown5 hgrow5 hnew5; obtain ⟨out2, hout2⟩ : ∃ q, outL ++ e = q := ⟨_, rfl⟩; rw [hout2] at hown5; have HOUT2 := Lib.hid hout2; have hlen2 := congrArg List.length hout2; rw [List.length_append] at hlen2; have HLEN2 := Lib.hid hlen2; obtain ⟨A5, c5, rfl, -, -, -⟩ := hown5.reads.form; obtain ⟨n5', hn5'⟩ : ∃ q, out2.length = q := ⟨_, rfl⟩; rw [hn5'] at hown5 hnew5 ⊢; obtain ⟨k1, k2, k3, k4, k5, k6, k7, k8, k9⟩ := H1.out.grown (fun b hb => Nat.lt_of_lt_of_le (HDB.out b hb) HBA.out.size) hown5 hgrow5 hnew5; have k3c := k3.cell; have k3f := k3.frozen; have k5' := boxed_set_other (u := .slice A5 n5' c5) k5 (show g14 ≠ B12 by have := HPL.out; omega); have k5c := k5'.cell; have k5f := k5'.frozen; obtain ⟨D5, hD5, hK5, hX5⟩ := H1.out.step (o' := o + 3) (L' := m') (M := M) (fun b hb => Nat.lt_of_lt_of_le (HDB.out b hb) HBA.out.size) (fun b hb => ⟨Nat.lt_of_lt_of_le (HMD.out b hb).1 HBA.out.size, (HMD.out b hb).2⟩) hown5 hgrow5 hnew5; have q12 := hX5.b12.cell; have q10f := hX5.b10.frozen; have q10c := hX5.b10.cell; have q11 := boxed_set_other (u := .slice A5 n5' c5) hX5.b11 (show n₀ + 1 ≠ n₀ by omega); have q11c := q11.cell; have q11f := q11.frozen; have HD5 := Lib.hid hD5; have HK5 := Lib.hid ((KeepOn.of_below (n₀ := n₀) (D := M) HBA.out).trans hK5); have HX5 := Lib.hid hX5; clear hown5 hgrow5 hnew5 k1 k2 k3 k4 k5 k6 k7 k8 k9 k5' hout2 hlen2 hD5 hK5 hX5 q11))
            rw [HOUT2.out] at hnext
            exact ⟨D5, HD5.out, HK5.out, o + 3, m', out2, _, ⟨by have := HKL.out; omega, by have := HKL.out; omega, by have := HKL.out; have := HMM'.out; omega, by have := HLEN2.out; have := HEL.out; have := HOL2.out; omega⟩, hnext, HX5.out⟩
      case done =>
        rintro dk D W hdk ⟨o, L, outL, outv, ⟨hk6, -, -, -⟩, hex, hin⟩ hK hDk
        obtain ⟨Ao, no, co, rfl⟩ := OB.form_slice hin.out
        have hres : R = (outL, 0) := by
          have := hex.out
          rw [List.drop_eq_nil_of_le (Nat.le_refl _), exc_nil] at this
          exact this.symm
        rw [hsz7] at hdk
        have c12 := hin.b12.cell
        have c10 := hin.b10.cell
        have f10 := hin.b10.frozen
        have q11 := boxed_set_other (u := .slice Ao no co) hin.b11 (show n₀ + 1 ≠ n₀ by omega)
        have c11 := q11.cell
        have f11 := q11.frozen
        obtain ⟨hy, hky⟩ := hin.fin 0
        have hK2 := (hky (fun b => b = dk) (fun b h => by subst h; exact hDk)).block dk (Array.getElem?_eq_some_iff.1 hK).1 (.inr rfl)
        rw [hK] at hK2
        have HY := Lib.hid hy
        have HK2 := Lib.hid hK2
        have HRES := Lib.hid hres
        clear hy hky hK2 hres hin hex q11 hK
        subst haR
        gi_wp2
        refine ⟨by simp, .inl ⟨_, _, rfl, run_takeDeferred HK2.out, ?_⟩⟩
        have hy2 := HY.out.keep (KeepOn.putObj (n₀ := n₀) (D := D) _ dk (.deferred none) (by omega) hDk)
        obtain ⟨A9, n9, c9, y1, y2, -⟩ := hy2.ex
        refine ⟨_, results_cells2 rfl _ rfl rfl y1 hy2.b11, .slice A9 n9 c9, by first | rw [HRES.out] | (rw [HRES.out]; rfl), ?_, by rw [hn0]; exact hy2.bel⟩
        rw [HRES.out, hn0]
        exact OB.mono y2 (by omega)
      case stop =>
        rintro dk c k D W hdk ⟨rfl, hy⟩ hK hDk
        rw [hsz7] at hdk
        have HY := Lib.hid hy
        have HK2 := Lib.hid hK
        clear hy hK
        subst haR
        gi_wp2
        refine ⟨by simp, .inl ⟨_, _, rfl, run_takeDeferred HK2.out, ?_⟩⟩
        have hy2 := HY.out.keep (KeepOn.putObj (n₀ := n₀) (D := D) _ dk (.deferred none) (by omega) hDk)
        obtain ⟨A9, n9, c9, y1, y2, -⟩ := hy2.ex
        refine ⟨_, results_cells2 rfl _ rfl rfl y1 hy2.b11, .slice A9 n9 c9, rfl, ?_, by rw [hn0]; exact hy2.bel⟩
        rw [hn0]
        exact OB.mono y2 (by omega)
set_option maxRecDepth 100000 in
set_option maxHeartbeats 4000000 in
theorem exchange_bad (h f r : ByteArray) (vb vm : Value) (b m : List UInt8) (w : World) (hh : h.size ≤ 1000) (hf : f.size ≤ 1000) (hr : r.size ≤ 1000) (hb : SB w vb b) (hm : SB w vm m) (hk : okE (bl h) (bl f) (bl r) = false) :
    Calls Try.prog 15 #[.string h, .string f, .string r, vb, vm] w fun e w' => e = .returned (.tuple #[.slice none 0 0, .int .i64 0]) ∧ Below w.heap.size w w' := by
  obtain ⟨Ab, cb, rfl, -, -, -⟩ := hb.form
  obtain ⟨Am, cm, rfl, -, -, -⟩ := hm.form
  obtain ⟨nb, hnb⟩ : ∃ n, b.length = n := ⟨_, rfl⟩
  obtain ⟨nm, hnm⟩ : ∃ n, m.length = n := ⟨_, rfl⟩
  rw [hnb, hnm]
  have hd := fun w => domain_any h (by unfold maxLen; omega) w
  have hf2 := fun w => mailbox_any f (by unfold maxLen; omega) w
  have hr2 := fun w => mailbox_any r (by unfold maxLen; omega) w
  have he : (f.toList == []) = (bl f).isEmpty := by rw [toList_bl]; cases bl f <;> rfl
  have he2 : f.toList.isEmpty = (bl f).isEmpty := by rw [toList_bl]
  unfold okE at hk
  obtain ⟨q0, h0⟩ : ∃ q, domB (bl h) = q := ⟨_, rfl⟩
  obtain ⟨q1, h1⟩ : ∃ q, (bl f).isEmpty = q := ⟨_, rfl⟩
  obtain ⟨q2, h2⟩ : ∃ q, mailB (bl f) = q := ⟨_, rfl⟩
  obtain ⟨q3, h3⟩ : ∃ q, mailB (bl r) = q := ⟨_, rfl⟩
  simp only [h0] at hd hk
  simp only [h1] at he he2 hk
  simp only [h2] at hf2 hk
  simp only [h3] at hr2 hk
  have HD := Lib.hid hd
  have HF := Lib.hid hf2
  have HR := Lib.hid hr2
  have hb2 : Below w.heap.size w ((w.alloc (.cells #[.slice none 0 0] 22)).alloc (.cells #[.int .i64 0] 3)) := ((Below.refl _ w).alloc (Nat.le_refl _) _).alloc (by simp) _
  have hs2 : ((w.alloc (.cells #[.slice none 0 0] 22)).alloc (.cells #[.int .i64 0] 3)).heap.size = w.heap.size + 2 := by rw [alloc_size, alloc_size]
  have hB10 := (Boxed.new w 22 (.slice none 0 0)).alloc (.cells #[.int .i64 0] 3)
  have hB11 : Boxed ((w.alloc (.cells #[.slice none 0 0] 22)).alloc (.cells #[.int .i64 0] 3)) (w.heap.size + 1) 3 (.int .i64 0) := by
    have := Boxed.new (w.alloc (.cells #[.slice none 0 0] 22)) 3 (.int .i64 0)
    rw [alloc_size] at this
    exact this
  obtain ⟨W2, hW2⟩ : ∃ W2, (w.alloc (.cells #[.slice none 0 0] 22)).alloc (.cells #[.int .i64 0] 3) = W2 := ⟨_, rfl⟩
  rw [hW2] at hb2 hs2 hB10 hB11
  have HW2 := Lib.hid hW2
  have fin : ∀ w4, Below W2.heap.size W2 w4 → Boxed w4 w.heap.size 22 (.slice none 0 0) ∧ Boxed w4 (w.heap.size + 1) 3 (.int .i64 0) ∧ Below w.heap.size w w4 := fun w4 hb4 =>
    ⟨boxed_below hB10 hb4, boxed_below hB11 hb4, hb2.trans (hb4.mono (by rw [hs2]; omega))⟩
  have FIN := Lib.hid fin
  clear hd hf2 hr2 hb hm hnb hnm h0 h1 h2 h3 fin hb2 hs2 hB10 hB11 hW2
  cases q0 with
  | false =>
    clear hk
    go_enter Try.func15, Try.ntmps15
    go_wp2_with fail
    first | rw [HW2.out] | skip
    refine (HD.out _).mono ?_
    rintro e w1 ⟨rfl, b1⟩
    have b4 := b1
    first | rw [HW2.out] at b4 | skip
    obtain ⟨y1, y2, y3⟩ := FIN.out _ b4
    have c1 := y1.cell
    have f1 := y1.frozen
    have z2 := boxed_set_other (u := .slice none 0 0) y2 (show w.heap.size + 1 ≠ w.heap.size by omega)
    have z1 := boxed_set_other (u := .int .i64 0) (y1.set (.slice none 0 0)) (show w.heap.size ≠ w.heap.size + 1 by omega)
    have c2' := z2.cell
    have f2 := z2.frozen
    have Z1 := Lib.hid z1
    have Z2 := Lib.hid (z2.set (.int .i64 0))
    have Y3 := Lib.hid ((y3.setCell (p := ⟨w.heap.size, 0, none⟩) (Nat.le_refl _) (.slice none 0 0)).setCell (p := ⟨w.heap.size + 1, 0, none⟩) (by simp) (.int .i64 0))
    clear y1 y2 y3 z1 z2
    go_wp2
    exact bodyPost_ret (v := .tuple #[.slice none 0 0, .int .i64 0]) (results_cells2 rfl _ rfl rfl Z1.out Z2.out) rfl ⟨rfl, Y3.out⟩
  | true =>
    cases q1 with
    | true =>
      obtain rfl : q3 = false := by simpa using hk
      clear hk
      go_enter Try.func15, Try.ntmps15
      go_wp2_with fail
      first | rw [HW2.out] | skip
      refine (HD.out _).mono ?_
      rintro e w1 ⟨rfl, b1⟩
      go_wp2_with fail
      refine (HR.out _).mono ?_
      rintro e w3 ⟨rfl, b3⟩
      have b4 := b1.trans (b3.mono b1.size)
      first | rw [HW2.out] at b4 | skip
      obtain ⟨y1, y2, y3⟩ := FIN.out _ b4
      have c1 := y1.cell
      have f1 := y1.frozen
      have z2 := boxed_set_other (u := .slice none 0 0) y2 (show w.heap.size + 1 ≠ w.heap.size by omega)
      have z1 := boxed_set_other (u := .int .i64 0) (y1.set (.slice none 0 0)) (show w.heap.size ≠ w.heap.size + 1 by omega)
      have c2' := z2.cell
      have f2 := z2.frozen
      have Z1 := Lib.hid z1
      have Z2 := Lib.hid (z2.set (.int .i64 0))
      have Y3 := Lib.hid ((y3.setCell (p := ⟨w.heap.size, 0, none⟩) (Nat.le_refl _) (.slice none 0 0)).setCell (p := ⟨w.heap.size + 1, 0, none⟩) (by simp) (.int .i64 0))
      clear y1 y2 y3 z1 z2
      go_wp2
      exact bodyPost_ret (v := .tuple #[.slice none 0 0, .int .i64 0]) (results_cells2 rfl _ rfl rfl Z1.out Z2.out) rfl ⟨rfl, Y3.out⟩
    | false =>
      cases q2 with
      | false =>
        clear hk
        go_enter Try.func15, Try.ntmps15
        go_wp2_with fail
        first | rw [HW2.out] | skip
        refine (HD.out _).mono ?_
        rintro e w1 ⟨rfl, b1⟩
        go_wp2_with fail
        refine (HF.out _).mono ?_
        rintro e w2 ⟨rfl, b2⟩
        have b4 := b1.trans (b2.mono b1.size)
        first | rw [HW2.out] at b4 | skip
        obtain ⟨y1, y2, y3⟩ := FIN.out _ b4
        have c1 := y1.cell
        have f1 := y1.frozen
        have z2 := boxed_set_other (u := .slice none 0 0) y2 (show w.heap.size + 1 ≠ w.heap.size by omega)
        have z1 := boxed_set_other (u := .int .i64 0) (y1.set (.slice none 0 0)) (show w.heap.size ≠ w.heap.size + 1 by omega)
        have c2' := z2.cell
        have f2 := z2.frozen
        have Z1 := Lib.hid z1
        have Z2 := Lib.hid (z2.set (.int .i64 0))
        have Y3 := Lib.hid ((y3.setCell (p := ⟨w.heap.size, 0, none⟩) (Nat.le_refl _) (.slice none 0 0)).setCell (p := ⟨w.heap.size + 1, 0, none⟩) (by simp) (.int .i64 0))
        clear y1 y2 y3 z1 z2
        go_wp2
        exact bodyPost_ret (v := .tuple #[.slice none 0 0, .int .i64 0]) (results_cells2 rfl _ rfl rfl Z1.out Z2.out) rfl ⟨rfl, Y3.out⟩
      | true =>
        obtain rfl : q3 = false := by simpa using hk
        clear hk
        go_enter Try.func15, Try.ntmps15
        go_wp2_with fail
        first | rw [HW2.out] | skip
        refine (HD.out _).mono ?_
        rintro e w1 ⟨rfl, b1⟩
        go_wp2_with fail
        refine (HF.out _).mono ?_
        rintro e w2 ⟨rfl, b2⟩
        go_wp2_with fail
        refine (HR.out _).mono ?_
        rintro e w3 ⟨rfl, b3⟩
        have c2 := b1.trans (b2.mono b1.size)
        have b4 := c2.trans (b3.mono c2.size)
        first | rw [HW2.out] at b4 | skip
        obtain ⟨y1, y2, y3⟩ := FIN.out _ b4
        have c1 := y1.cell
        have f1 := y1.frozen
        have z2 := boxed_set_other (u := .slice none 0 0) y2 (show w.heap.size + 1 ≠ w.heap.size by omega)
        have z1 := boxed_set_other (u := .int .i64 0) (y1.set (.slice none 0 0)) (show w.heap.size ≠ w.heap.size + 1 by omega)
        have c2' := z2.cell
        have f2 := z2.frozen
        have Z1 := Lib.hid z1
        have Z2 := Lib.hid (z2.set (.int .i64 0))
        have Y3 := Lib.hid ((y3.setCell (p := ⟨w.heap.size, 0, none⟩) (Nat.le_refl _) (.slice none 0 0)).setCell (p := ⟨w.heap.size + 1, 0, none⟩) (by simp) (.int .i64 0))
        clear y1 y2 y3 z1 z2
        go_wp2
        exact bodyPost_ret (v := .tuple #[.slice none 0 0, .int .i64 0]) (results_cells2 rfl _ rfl rfl Z1.out Z2.out) rfl ⟨rfl, Y3.out⟩
set_option maxHeartbeats 400000 in
/-- **Exchange** -/
theorem exchange_any (h f r : ByteArray) (vb vm : Value) (b m : List UInt8) (w : World) (hml : ML w) (hh : h.size ≤ 1000) (hf : f.size ≤ 1000) (hr : r.size ≤ 1000) (hbl : b.length ≤ 100000) (hmm : m.length ≤ 1000000) (hb : SB w vb b) (hm : SB w vm m) :
    Calls Try.prog 15 #[.string h, .string f, .string r, vb, vm] w fun e w' => ∃ u, e = .returned (.tuple #[u, .int .i64 ((exL (bl h) (bl f) (bl r) b m).2 : Int)]) ∧ OB w' w.heap.size u (exL (bl h) (bl f) (bl r) b m).1 ∧ Below w.heap.size w w' := by
  cases hk : okE (bl h) (bl f) (bl r) with
  | true => exact exchange_good h f r vb vm b m w hml hh hf hr hbl hmm hb hm hk
  | false =>
    have he : exL (bl h) (bl f) (bl r) b m = ([], 0) := by unfold exL; rw [if_neg (by rw [hk]; decide)]
    rw [he]
    exact (exchange_bad h f r vb vm b m w hh hf hr hb hm hk).mono fun e w' ⟨h1, h2⟩ => ⟨_, h1, World.ownsRow_nil _ _ _ _, h2⟩
theorem qExchange_any (h f r : ByteArray) (vb vm : Value) (b m : List UInt8) (w : World) (hh : h.size ≤ 1000) (hf : f.size ≤ 1000) (hr : r.size ≤ 1000) (hbl : b.length ≤ 100000) (hmm : m.length ≤ 1000000) (hb : SB w vb b) (hm : SB w vm m) :
    Calls Try.prog 16 #[.string h, .string f, .string r, vb, vm] w fun e w' => ∃ u, e = .returned (.tuple #[u, .int .i64 ((exL (bl h) (bl f) (bl r) b m).2 : Int)]) ∧ OB w' w.heap.size u (exL (bl h) (bl f) (bl r) b m).1 ∧ Below w.heap.size w w' := by
  cases hk : okE (bl h) (bl f) (bl r) with
  | true => exact qExchange_good h f r vb vm b m w hh hf hr hbl hmm hb hm hk
  | false =>
    have he : exL (bl h) (bl f) (bl r) b m = ([], 0) := by unfold exL; rw [if_neg (by rw [hk]; decide)]
    rw [he]
    exact (qExchange_bad h f r vb vm b m w hh hf hr hb hm hk).mono fun e w' ⟨h1, h2⟩ => ⟨_, h1, World.ownsRow_nil _ _ _ _, h2⟩
end Go.Proofs.Ytlgodokgebjjaaa

/- the reference's Reply. -/
import Derived.RangeFuncNested
import Derived.RangeFuncBound
import Derived.RangeFuncCalls
import Derived.RangeFuncLeaves
import Derived.Shelf.Abstract
import Derived.Shelf.RegionOpen
import Derived.WalkKit
import Derived.OwnWalkIn
import Derived.TacticsInMore
import Derived.LoopNIn
import Derived.LoopIn
import Derived.Outline
import Derived.Lib.Hide
import Derived.Lib.SliceRun
import Derived.IntWalk
import Derived.WalkLawsBesides
import Derived.WalkSpells
import Derived.Laws.BitsAllLaws
import Derived.Lib.ConvBytes
import Derived.Maps.AppendAt
import Derived.Lib.AppendStr
import Derived.Lib.SlBytesConst
import Derived.Laws.AppendOwnNone
import Derived.Laws.OwnMore
import Derived.Laws.BytesArg
import Derived.Deep.RegionHeld3
import Derived.BigQuiet
import Derived.Deep.RegionLaw
import Derived.Deep.QuietTactic
import Derived.Lib.OthersKept
import Derived.Test.YtlgodokgebjjaaaProg
import Derived.Deep.DeepFit
import Derived.Test.YtlgodokgebjjaaaClC
import Derived.Test.YtlgodokgebjjaaaDoG
set_option linter.unusedVariables false
set_option linter.unusedSimpArgs false
namespace Go.Proofs.Ytlgodokgebjjaaa
open Go Go.RowKit Go.Shelf

theorem codeB_iff (a : List UInt8) : codeB a = true ↔ 5 ≤ a.length ∧ (50 ≤ gb a 0 ∧ gb a 0 ≤ 53) ∧ (48 ≤ gb a 1 ∧ gb a 1 ≤ 57) ∧ (48 ≤ gb a 2 ∧ gb a 2 ≤ 57) := by
  unfold codeB; simp [and_assoc]
theorem first_line (l a b : List UInt8) (h : fl l = some (a, b)) (h3 : 3 ≤ a.length) : a.take 3 = l.take 3 := by
  obtain ⟨h1, -, -, -⟩ := fl_app _ _ _ h
  rw [h1, List.take_append_of_le_length h3]
theorem lns_first (l : List UInt8) (a : List UInt8) (h : (lns l)[0]? = some a) (h3 : 3 ≤ a.length) : a.take 3 = l.take 3 := by
  cases hf : fl l with
  | none => rw [lns_none _ hf] at h; simp at h
  | some p =>
    obtain ⟨x, b⟩ := p
    rw [lns_some _ _ _ hf] at h
    simp at h
    subst h
    exact first_line l x b hf h3
theorem str_bne (xs ys : List UInt8) : ((⟨xs.toArray⟩ : ByteArray).toList == (⟨ys.toArray⟩ : ByteArray).toList) = decide (xs = ys) := by
  rw [toList_bl, toList_bl, bl_mk, bl_mk]
  by_cases h : xs = ys <;> simp [h]
set_option maxRecDepth 100000 in
set_option maxHeartbeats 8000000 in
/-- **the reference's Reply** -/
theorem qReply_any (v : Value) (l : List UInt8) (w : World) (hlen : l.length ≤ 2000000) (h : SB w v l) :
    Calls Try.prog 21 #[v] w fun e w' => ∃ u, e = .returned (.tuple #[.int .i64 (rpC (rp l) : Int), u, .bool (rp l).isSome]) ∧ (∀ W, SB W v l → SB W u (l.drop (rpU (rp l)))) ∧ Below w.heap.size w w' := by
  obtain ⟨A, c, rfl, hcap, hcm, -⟩ := h.form
  have hql := qlines_any _ l w (by omega) h
  obtain ⟨n, hn⟩ : ∃ n, l.length = n := ⟨_, rfl⟩
  obtain ⟨R, hR⟩ : ∃ R, rp l = R := ⟨_, rfl⟩
  have hR0 : Hid (rpL (l.take 3) ((lns l).drop 0) 0 = R) := hR
  have hfl0 : (lns l).flatten.length ≤ n := by rw [← hn]; exact (lns_len l.length l (Nat.le_refl _)).2
  rw [hR]
  rw [hn] at hql hcap hlen ⊢
  rw [hn] at h
  have HS := Lib.hid h
  have HN := Lib.hid hn
  have HQL := Lib.hid hql
  have h1st : ∀ a, (lns l)[0]? = some a → 3 ≤ a.length → a.take 3 = l.take 3 := fun a h h3 => lns_first l a h h3
  have HFST := Lib.hid h1st
  have hl5 : ∀ a ∈ lns l, a.length = 5 → gb a 3 = 13 := fun a ha h5 => by
    have h1 := (lns_lines l.length l (Nat.le_refl _) a ha)
    obtain ⟨-, -, ⟨e, he⟩, -⟩ := fl_app _ _ _ h1
    have : e.length = 3 := by rw [he] at h5; simp at h5; omega
    rw [he]
    unfold gb
    rw [List.getElem?_append_right (by omega), this]
    rfl
  have HL5 := Lib.hid hl5
  obtain ⟨ls, hls⟩ : ∃ ls, lns l = ls := ⟨_, rfl⟩
  have hfl1 : ls.flatten.length ≤ n := by rw [← hls]; exact hfl0
  rw [hls] at HQL hR0 HFST HL5
  have HFL0 : Hid (0 + (ls.drop 0).flatten.length ≤ n) := by show _ ≤ _; rw [List.drop_zero]; omega
  clear h hR hn hql hfl0 h1st hls hfl1 hl5
  go_enter Try.func21, Try.ntmps21
  go_wp2_with fail
  refine HQL.out.mono ?_
  rintro e w2 ⟨us, rr, rfl, hss, hb2⟩
  obtain ⟨A2, c2, rfl, hc2, -⟩ := hss.form
  obtain ⟨N, hN⟩ : ∃ N, ls.length = N := ⟨_, rfl⟩
  have HNN := Lib.hid hN
  rw [hN] at hss hc2 ⊢
  have HSS := Lib.hid hss
  have HB2 := Lib.hid hb2
  clear hss hb2 hN
  go_wp2
  go_loopw [7, 17] (fun at_ x wr => ∃ (k u : Nat), (x = .int .i64 (k : Int) ∧ k ≤ N ∧ u ≤ n) ∧ at_ = .int .i64 (u : Int) ∧ Hid (rpL (l.take 3) (ls.drop k) u = R) ∧ Hid (u + (ls.drop k).flatten.length ≤ n) ∧ Hid (0 < k → 5 ≤ (ls[0]?.getD []).length) ∧ Hid (Below w2.heap.size w2 wr)) (fun _ x _ => N - (intOf x).toNat)
  case atStart => exact ⟨0, 0, ⟨rfl, Nat.zero_le _, Nat.zero_le _⟩, rfl, hR0, HFL0, fun h => absurd h (by omega), Below.refl _ _⟩
  case round =>
    clear hR0 HFL0
    obtain ⟨k, u, ⟨rfl, hk, hu⟩, rfl, hrp, hfl, h5, hbw⟩ := hrel
    by_cases hlt : k < N
    · obtain ⟨a, ha⟩ : ∃ a, ls[k]? = some a := ⟨_, List.getElem?_eq_getElem (by rw [HNN.out]; exact hlt)⟩
      have hdr : ls.drop k = a :: ls.drop (k + 1) := by
        have hk' : k < ls.length := by rw [HNN.out]; exact hlt
        rw [List.drop_eq_getElem_cons hk']
        rw [List.getElem?_eq_getElem hk'] at ha
        cases ha
        rfl
      have hrq := hrp.out
      have hfq := hfl.out
      rw [hdr, rpL_cons] at hrq
      rw [hdr, List.flatten_cons, List.length_append] at hfq
      obtain ⟨-, g, o, ux, hA2, hu0, hsu0⟩ := HSS.out.at_ k a ha
      have hux := cell_below hu0 hbw.out
      have hsu := hsu0.below hbw.out
      obtain ⟨A4, c4, rfl, hc4, hc4m, -⟩ := hsu0.form
      have hfirst := fun (h0 : 0 < k) => (by
        have h5' := h5.out h0
        obtain ⟨a0, ha0⟩ : ∃ a0, ls[0]? = some a0 := ⟨_, List.getElem?_eq_getElem (by rw [HNN.out]; omega)⟩
        rw [ha0] at h5'
        obtain ⟨-, g', o', ux0, hA2', hv0, hsv0⟩ := HSS.out.at_ 0 a0 ha0
        rw [hA2] at hA2'
        cases hA2'
        exact ⟨a0, ux0, HFST.out a0 ha0 (by simp at h5'; omega), by simpa using h5', cell_below hv0 hbw.out, hsv0.below hbw.out⟩ : ∃ a0 ux0, a0.take 3 = l.take 3 ∧ 5 ≤ a0.length ∧ wr.cell? ⟨g, o + 0, none⟩ = some ux0 ∧ SB wr ux0 a0)
      have hone := fun (h0 : k = 0) => (by subst h0; exact fun h3 => HFST.out a ha h3 : 3 ≤ a.length → a.take 3 = l.take 3)
      subst hA2
      obtain ⟨p, hp⟩ : ∃ p, a.length = p := ⟨_, rfl⟩
      have hcells : 5 ≤ p → ∃ g4 o4, A4 = some ⟨g4, o4, none⟩ ∧ ∀ i, i < p → wr.cell? ⟨g4, o4 + i, none⟩ = some (.int .u8 (gb a i : Int)) := by
        intro hp5
        rcases hsu with ⟨e, e2⟩ | ⟨ad, c', e, _, _, hx⟩
        · rw [e2] at hp; simp at hp; omega
        injection e with f1 f2 f3
        obtain ⟨g4, o4, hA, hc⟩ := hx (by omega)
        rw [hA] at f1
        exact ⟨g4, o4, f1, fun i hi => hc i (by omega)⟩
      have h5n : 5 ≤ p → Hid (0 < k + 1 → 5 ≤ (ls[0]?.getD []).length) := by
        intro hp5 _
        by_cases h0 : 0 < k
        · exact h5.out h0
        · obtain rfl : k = 0 := by omega
          rw [ha]
          simpa [hp] using hp5
      rw [hp] at hfq hc4 hux hone
      have HH5 := Lib.hid h5n
      have HRQ := Lib.hid hrq
      have HFQ := Lib.hid hfq
      have HSU := Lib.hid hsu
      have HP := Lib.hid hp
      have HFI := Lib.hid hfirst
      have HONE := Lib.hid hone
      have hcode := codeB_iff a
      rw [hp] at hcode
      have hx0 := gb_lt a 0
      have hx1 := gb_lt a 1
      have hx2 := gb_lt a 2
      have hx3 := gb_lt a 3
      have hcodeN : codeN a = (gb a 0 - 48) * 100 + (gb a 1 - 48) * 10 + (gb a 2 - 48) := rfl
      have hlast : lastC a = (decide (p = 5) || decide (gb a 3 = 32)) := by unfold lastC; rw [hp]
      have hx5 := HL5.out a (List.mem_of_getElem? ha)
      rw [hp] at hx5
      obtain ⟨x0, e0⟩ : ∃ x, gb a 0 = x := ⟨_, rfl⟩
      obtain ⟨x1, e1⟩ : ∃ x, gb a 1 = x := ⟨_, rfl⟩
      obtain ⟨x2, e2⟩ : ∃ x, gb a 2 = x := ⟨_, rfl⟩
      obtain ⟨x3, e3⟩ : ∃ x, gb a 3 = x := ⟨_, rfl⟩
      rw [e0] at hx0 hcodeN hcode
      rw [e1] at hx1 hcodeN hcode
      rw [e2] at hx2 hcodeN hcode
      rw [e3] at hx3 hlast hx5
      have HX5 := Lib.hid hx5
      rw [e3] at HRQ
      have hc0 : 5 ≤ p → ∃ g4 o4, A4 = some ⟨g4, o4, none⟩ ∧ wr.cell? ⟨g4, o4, none⟩ = some (.int .u8 (x0 : Int)) ∧ wr.cell? ⟨g4, o4 + 1, none⟩ = some (.int .u8 (x1 : Int)) ∧ wr.cell? ⟨g4, o4 + 2, none⟩ = some (.int .u8 (x2 : Int)) ∧ wr.cell? ⟨g4, o4 + 3, none⟩ = some (.int .u8 (x3 : Int)) := by
        intro hp5
        obtain ⟨g4, o4, hA, hc⟩ := hcells hp5
        exact ⟨g4, o4, hA, by have := hc 0 (by omega); rw [e0] at this; exact this, by have := hc 1 (by omega); rw [e1] at this; exact this, by have := hc 2 (by omega); rw [e2] at this; exact this, by have := hc 3 (by omega); rw [e3] at this; exact this⟩
      have HC0 := Lib.hid hc0
      have HCODE := Lib.hid hcode
      have HCN := Lib.hid hcodeN
      have HLC := Lib.hid hlast
      have HBW := Lib.hid hbw.out
      have kk0 : (0 : Int) ≤ (k : Int) := by omega
      have kk1 : (k : Int) < (N : Int) := by omega
      have dk0 : decide (k < N) = true := decide_eq_true hlt
      have dk1 : decide ((k : Int) < (N : Int)) = true := decide_eq_true kk1
      clear hrp hfl h5 hbw hdr hrq hfq hsu hp hfirst hone hcode hcodeN hlast hc0 e0 e1 e2 e3 hcells h5n ha hu0 hsu0 hx5
      rcases (by omega : p < 5 ∨ (5 ≤ p ∧ x0 < 50) ∨ (5 ≤ p ∧ 53 < x0) ∨ (5 ≤ p ∧ 50 ≤ x0 ∧ x0 ≤ 53 ∧ x1 < 48) ∨ (5 ≤ p ∧ 50 ≤ x0 ∧ x0 ≤ 53 ∧ 57 < x1) ∨ (5 ≤ p ∧ 50 ≤ x0 ∧ x0 ≤ 53 ∧ 48 ≤ x1 ∧ x1 ≤ 57 ∧ x2 < 48) ∨ (5 ≤ p ∧ 50 ≤ x0 ∧ x0 ≤ 53 ∧ 48 ≤ x1 ∧ x1 ≤ 57 ∧ 57 < x2) ∨ (5 ≤ p ∧ 50 ≤ x0 ∧ x0 ≤ 53 ∧ 48 ≤ x1 ∧ x1 ≤ 57 ∧ 48 ≤ x2 ∧ x2 ≤ 57)) with ht | ht | ht | ht | ht | ht | ht | ht
      · have hcb : codeB a = false := Bool.eq_false_iff.2 (fun h => by have := HCODE.out.1 h; omega)
        have hRn : R = none := by rw [← HRQ.out, hcb]; rfl
        subst hRn
        have t0 : decide ((p : Int) < 5) = true := decide_eq_true (by omega)
        have s0 : decide (p < 5) = true := decide_eq_true (by omega)
        clear ht hcb
        go_wp2_with fail
        go_quiet (fail)
        go_wp2
        go_ret3
        exact ⟨_, rfl, (fun W h => by rw [show rpU none = 0 from rfl, List.drop_zero]; exact h), below_drewN (HB2.out.trans (HBW.out.mono HB2.out.size)) _⟩
      · have hcb : codeB a = false := Bool.eq_false_iff.2 (fun h => by have := HCODE.out.1 h; omega)
        have hRn : R = none := by rw [← HRQ.out, hcb]; rfl
        subst hRn
        have t0 : decide ((p : Int) < 5) = false := decide_eq_false (by omega)
        have s0 : decide (p < 5) = false := decide_eq_false (by omega)
        have t1 : decide ((x0 : Int) < 50) = true := decide_eq_true (by omega)
        have s1 : decide (x0 < 50) = true := decide_eq_true (by omega)
        have i0 : (0 : Int) < (p : Int) := by omega
        have j0 : 0 < p := by omega
        have i1 : (1 : Int) < (p : Int) := by omega
        have j1 : 1 < p := by omega
        have i2 : (2 : Int) < (p : Int) := by omega
        have j2 : 2 < p := by omega
        have i3 : (3 : Int) < (p : Int) := by omega
        have j3 : 3 < p := by omega
        obtain ⟨g4, o4, hA4, c0, c1, c2', c3⟩ := HC0.out (by omega)
        subst hA4
        clear ht hcb
        go_wp2_with fail
        go_quiet (fail)
        go_wp2
        go_ret3
        exact ⟨_, rfl, (fun W h => by rw [show rpU none = 0 from rfl, List.drop_zero]; exact h), below_drewN (HB2.out.trans (HBW.out.mono HB2.out.size)) _⟩
      · have hcb : codeB a = false := Bool.eq_false_iff.2 (fun h => by have := HCODE.out.1 h; omega)
        have hRn : R = none := by rw [← HRQ.out, hcb]; rfl
        subst hRn
        have t0 : decide ((p : Int) < 5) = false := decide_eq_false (by omega)
        have s0 : decide (p < 5) = false := decide_eq_false (by omega)
        have t1 : decide ((x0 : Int) < 50) = false := decide_eq_false (by omega)
        have s1 : decide (x0 < 50) = false := decide_eq_false (by omega)
        have t2 : decide ((53 : Int) < (x0 : Int)) = true := decide_eq_true (by omega)
        have s2 : decide (53 < x0) = true := decide_eq_true (by omega)
        have i0 : (0 : Int) < (p : Int) := by omega
        have j0 : 0 < p := by omega
        have i1 : (1 : Int) < (p : Int) := by omega
        have j1 : 1 < p := by omega
        have i2 : (2 : Int) < (p : Int) := by omega
        have j2 : 2 < p := by omega
        have i3 : (3 : Int) < (p : Int) := by omega
        have j3 : 3 < p := by omega
        obtain ⟨g4, o4, hA4, c0, c1, c2', c3⟩ := HC0.out (by omega)
        subst hA4
        clear ht hcb
        go_wp2_with fail
        go_quiet (fail)
        go_wp2
        go_ret3
        exact ⟨_, rfl, (fun W h => by rw [show rpU none = 0 from rfl, List.drop_zero]; exact h), below_drewN (HB2.out.trans (HBW.out.mono HB2.out.size)) _⟩
      · have hcb : codeB a = false := Bool.eq_false_iff.2 (fun h => by have := HCODE.out.1 h; omega)
        have hRn : R = none := by rw [← HRQ.out, hcb]; rfl
        subst hRn
        have t0 : decide ((p : Int) < 5) = false := decide_eq_false (by omega)
        have s0 : decide (p < 5) = false := decide_eq_false (by omega)
        have t1 : decide ((x0 : Int) < 50) = false := decide_eq_false (by omega)
        have s1 : decide (x0 < 50) = false := decide_eq_false (by omega)
        have t2 : decide ((53 : Int) < (x0 : Int)) = false := decide_eq_false (by omega)
        have s2 : decide (53 < x0) = false := decide_eq_false (by omega)
        have t3 : decide ((x1 : Int) < 48) = true := decide_eq_true (by omega)
        have s3 : decide (x1 < 48) = true := decide_eq_true (by omega)
        have i0 : (0 : Int) < (p : Int) := by omega
        have j0 : 0 < p := by omega
        have i1 : (1 : Int) < (p : Int) := by omega
        have j1 : 1 < p := by omega
        have i2 : (2 : Int) < (p : Int) := by omega
        have j2 : 2 < p := by omega
        have i3 : (3 : Int) < (p : Int) := by omega
        have j3 : 3 < p := by omega
        obtain ⟨g4, o4, hA4, c0, c1, c2', c3⟩ := HC0.out (by omega)
        subst hA4
        clear ht hcb
        go_wp2_with fail
        go_quiet (fail)
        go_wp2
        go_ret3
        exact ⟨_, rfl, (fun W h => by rw [show rpU none = 0 from rfl, List.drop_zero]; exact h), below_drewN (HB2.out.trans (HBW.out.mono HB2.out.size)) _⟩
      · have hcb : codeB a = false := Bool.eq_false_iff.2 (fun h => by have := HCODE.out.1 h; omega)
        have hRn : R = none := by rw [← HRQ.out, hcb]; rfl
        subst hRn
        have t0 : decide ((p : Int) < 5) = false := decide_eq_false (by omega)
        have s0 : decide (p < 5) = false := decide_eq_false (by omega)
        have t1 : decide ((x0 : Int) < 50) = false := decide_eq_false (by omega)
        have s1 : decide (x0 < 50) = false := decide_eq_false (by omega)
        have t2 : decide ((53 : Int) < (x0 : Int)) = false := decide_eq_false (by omega)
        have s2 : decide (53 < x0) = false := decide_eq_false (by omega)
        have t3 : decide ((x1 : Int) < 48) = false := decide_eq_false (by omega)
        have s3 : decide (x1 < 48) = false := decide_eq_false (by omega)
        have t4 : decide ((57 : Int) < (x1 : Int)) = true := decide_eq_true (by omega)
        have s4 : decide (57 < x1) = true := decide_eq_true (by omega)
        have i0 : (0 : Int) < (p : Int) := by omega
        have j0 : 0 < p := by omega
        have i1 : (1 : Int) < (p : Int) := by omega
        have j1 : 1 < p := by omega
        have i2 : (2 : Int) < (p : Int) := by omega
        have j2 : 2 < p := by omega
        have i3 : (3 : Int) < (p : Int) := by omega
        have j3 : 3 < p := by omega
        obtain ⟨g4, o4, hA4, c0, c1, c2', c3⟩ := HC0.out (by omega)
        subst hA4
        clear ht hcb
        go_wp2_with fail
        go_quiet (fail)
        go_wp2
        go_ret3
        exact ⟨_, rfl, (fun W h => by rw [show rpU none = 0 from rfl, List.drop_zero]; exact h), below_drewN (HB2.out.trans (HBW.out.mono HB2.out.size)) _⟩
      · have hcb : codeB a = false := Bool.eq_false_iff.2 (fun h => by have := HCODE.out.1 h; omega)
        have hRn : R = none := by rw [← HRQ.out, hcb]; rfl
        subst hRn
        have t0 : decide ((p : Int) < 5) = false := decide_eq_false (by omega)
        have s0 : decide (p < 5) = false := decide_eq_false (by omega)
        have t1 : decide ((x0 : Int) < 50) = false := decide_eq_false (by omega)
        have s1 : decide (x0 < 50) = false := decide_eq_false (by omega)
        have t2 : decide ((53 : Int) < (x0 : Int)) = false := decide_eq_false (by omega)
        have s2 : decide (53 < x0) = false := decide_eq_false (by omega)
        have t3 : decide ((x1 : Int) < 48) = false := decide_eq_false (by omega)
        have s3 : decide (x1 < 48) = false := decide_eq_false (by omega)
        have t4 : decide ((57 : Int) < (x1 : Int)) = false := decide_eq_false (by omega)
        have s4 : decide (57 < x1) = false := decide_eq_false (by omega)
        have t5 : decide ((x2 : Int) < 48) = true := decide_eq_true (by omega)
        have s5 : decide (x2 < 48) = true := decide_eq_true (by omega)
        have i0 : (0 : Int) < (p : Int) := by omega
        have j0 : 0 < p := by omega
        have i1 : (1 : Int) < (p : Int) := by omega
        have j1 : 1 < p := by omega
        have i2 : (2 : Int) < (p : Int) := by omega
        have j2 : 2 < p := by omega
        have i3 : (3 : Int) < (p : Int) := by omega
        have j3 : 3 < p := by omega
        obtain ⟨g4, o4, hA4, c0, c1, c2', c3⟩ := HC0.out (by omega)
        subst hA4
        clear ht hcb
        go_wp2_with fail
        go_quiet (fail)
        go_wp2
        go_ret3
        exact ⟨_, rfl, (fun W h => by rw [show rpU none = 0 from rfl, List.drop_zero]; exact h), below_drewN (HB2.out.trans (HBW.out.mono HB2.out.size)) _⟩
      · have hcb : codeB a = false := Bool.eq_false_iff.2 (fun h => by have := HCODE.out.1 h; omega)
        have hRn : R = none := by rw [← HRQ.out, hcb]; rfl
        subst hRn
        have t0 : decide ((p : Int) < 5) = false := decide_eq_false (by omega)
        have s0 : decide (p < 5) = false := decide_eq_false (by omega)
        have t1 : decide ((x0 : Int) < 50) = false := decide_eq_false (by omega)
        have s1 : decide (x0 < 50) = false := decide_eq_false (by omega)
        have t2 : decide ((53 : Int) < (x0 : Int)) = false := decide_eq_false (by omega)
        have s2 : decide (53 < x0) = false := decide_eq_false (by omega)
        have t3 : decide ((x1 : Int) < 48) = false := decide_eq_false (by omega)
        have s3 : decide (x1 < 48) = false := decide_eq_false (by omega)
        have t4 : decide ((57 : Int) < (x1 : Int)) = false := decide_eq_false (by omega)
        have s4 : decide (57 < x1) = false := decide_eq_false (by omega)
        have t5 : decide ((x2 : Int) < 48) = false := decide_eq_false (by omega)
        have s5 : decide (x2 < 48) = false := decide_eq_false (by omega)
        have t6 : decide ((57 : Int) < (x2 : Int)) = true := decide_eq_true (by omega)
        have s6 : decide (57 < x2) = true := decide_eq_true (by omega)
        have i0 : (0 : Int) < (p : Int) := by omega
        have j0 : 0 < p := by omega
        have i1 : (1 : Int) < (p : Int) := by omega
        have j1 : 1 < p := by omega
        have i2 : (2 : Int) < (p : Int) := by omega
        have j2 : 2 < p := by omega
        have i3 : (3 : Int) < (p : Int) := by omega
        have j3 : 3 < p := by omega
        obtain ⟨g4, o4, hA4, c0, c1, c2', c3⟩ := HC0.out (by omega)
        subst hA4
        clear ht hcb
        go_wp2_with fail
        go_quiet (fail)
        go_wp2
        go_ret3
        exact ⟨_, rfl, (fun W h => by rw [show rpU none = 0 from rfl, List.drop_zero]; exact h), below_drewN (HB2.out.trans (HBW.out.mono HB2.out.size)) _⟩
      · obtain ⟨hp5, h50, h53, h48, h57, h48', h57'⟩ := ht
        have hcb : codeB a = true := HCODE.out.2 ⟨hp5, ⟨h50, h53⟩, ⟨h48, h57⟩, h48', h57'⟩
        have HN5 := Lib.hid (HH5.out hp5)
        have t0 : decide ((p : Int) < 5) = false := decide_eq_false (by omega)
        have s0 : decide (p < 5) = false := decide_eq_false (by omega)
        have t1 : decide ((x0 : Int) < 50) = false := decide_eq_false (by omega)
        have s1 : decide (x0 < 50) = false := decide_eq_false (by omega)
        have t2 : decide ((53 : Int) < (x0 : Int)) = false := decide_eq_false (by omega)
        have s2 : decide (53 < x0) = false := decide_eq_false (by omega)
        have t3 : decide ((x1 : Int) < 48) = false := decide_eq_false (by omega)
        have s3 : decide (x1 < 48) = false := decide_eq_false (by omega)
        have t4 : decide ((57 : Int) < (x1 : Int)) = false := decide_eq_false (by omega)
        have s4 : decide (57 < x1) = false := decide_eq_false (by omega)
        have t5 : decide ((x2 : Int) < 48) = false := decide_eq_false (by omega)
        have s5 : decide (x2 < 48) = false := decide_eq_false (by omega)
        have t6 : decide ((57 : Int) < (x2 : Int)) = false := decide_eq_false (by omega)
        have s6 : decide (57 < x2) = false := decide_eq_false (by omega)
        have i0 : (0 : Int) < (p : Int) := by omega
        have j0 : 0 < p := by omega
        have i1 : (1 : Int) < (p : Int) := by omega
        have j1 : 1 < p := by omega
        have i2 : (2 : Int) < (p : Int) := by omega
        have j2 : 2 < p := by omega
        have i3 : (3 : Int) < (p : Int) := by omega
        have j3 : 3 < p := by omega
        obtain ⟨g4, o4, hA4, c0, c1, c2', c3⟩ := HC0.out (by omega)
        subst hA4
        have hrq := HRQ.out
        rw [hcb, Bool.true_and, HCN.out, HP.out] at hrq
        have ks3 := fun w => slice_runh (some ⟨g4, o4, none⟩) p c4 3 (by omega) (3 : Int) rfl w
        have hs3 := fun (m : Nat) => ((HSU.out.below (W' := wr.drewN m) (below_drewN (Below.refl _ _) m)).take 3 (by rw [HP.out]; omega) (.inr trivial)).str
        obtain ⟨S1, hS1⟩ : ∃ S : ByteArray, S = ⟨(a.take 3).toArray⟩ := ⟨_, rfl⟩
        rw [← hS1] at hs3
        have z0 : ((x0 : Int) - 48) % 256 = (x0 : Int) - 48 := by omega
        have z1 : ((x1 : Int) - 48) % 256 = (x1 : Int) - 48 := by omega
        have z2 : ((x2 : Int) - 48) % 256 = (x2 : Int) - 48 := by omega
        have v0 : IntKind.i64.wrap (100 * ((x0 : Int) - 48)) = 100 * ((x0 : Int) - 48) := IntWalk.i64_in _ (by omega)
        have v1 : IntKind.i64.wrap (10 * ((x1 : Int) - 48)) = 10 * ((x1 : Int) - 48) := IntWalk.i64_in _ (by omega)
        have v2 : IntKind.i64.wrap (100 * ((x0 : Int) - 48) + 10 * ((x1 : Int) - 48)) = 100 * ((x0 : Int) - 48) + 10 * ((x1 : Int) - 48) := IntWalk.i64_in _ (by omega)
        have v3 : IntKind.i64.wrap (100 * ((x0 : Int) - 48) + 10 * ((x1 : Int) - 48) + ((x2 : Int) - 48)) = 100 * ((x0 : Int) - 48) + 10 * ((x1 : Int) - 48) + ((x2 : Int) - 48) := IntWalk.i64_in _ (by omega)
        have hcd : 100 * ((x0 : Int) - 48) + 10 * ((x1 : Int) - 48) + ((x2 : Int) - 48) = (((x0 - 48) * 100 + (x1 - 48) * 10 + (x2 - 48) : Nat) : Int) := by omega
        obtain ⟨CN, hCN⟩ : ∃ N, (x0 - 48) * 100 + (x1 - 48) * 10 + (x2 - 48) = N := ⟨_, rfl⟩
        rw [hCN] at hcd hrq
        have HCD := Lib.hid hcd
        have hup : u + p ≤ n := by have := HFQ.out; omega
        have HF1 : Hid (u + p + (ls.drop (k + 1)).flatten.length ≤ n) := by show _ ≤ _; have := HFQ.out; omega
        have w1 : IntKind.i64.wrap ((u : Int) + (p : Int)) = (u : Int) + (p : Int) := IntWalk.i64_in _ (by omega)
        have w2' : (u : Int) + (p : Int) = ((u + p : Nat) : Int) := by omega
        have HW2 := Lib.hid w2'
        obtain ⟨m, hm⟩ : ∃ m, n - (u + p) = m := ⟨_, rfl⟩
        obtain ⟨d, hd⟩ : ∃ d, c - (u + p) = d := ⟨_, rfl⟩
        have kr2 := fun w => slice_run1 A n c (u + p) hup ((u : Int) + (p : Int)) w2' m d hm.symm hd.symm w
        have hfin := fun W (h : SB W (.slice A n c) l) => h.cut1 (u + p) m d (by rw [HN.out]; exact hup) (by rw [HN.out]; exact hm.symm) hd.symm
        have HFIN := Lib.hid hfin
        have hl3 : Hid (a.take 3 = l.take 3 → (if lastC a = true then some (CN, u + p) else if x3 = 45 then rpL (l.take 3) (ls.drop (k + 1)) (u + p) else none) = R) := fun h => by rw [← hrq]; simp [h]
        have hl4 : Hid (¬ a.take 3 = l.take 3 → R = none) := fun h => by rw [← hrq]; simp [h]
        clear hcb hrq hfin hm hd hCN hcd w2'
        by_cases hk0 : 0 < k
        · obtain ⟨a0, ux0, h30, h50', hc00, hs00⟩ := HFI.out hk0
          obtain ⟨A5, c5, rfl, hc5, -, -⟩ := hs00.form
          rw [Nat.add_zero o] at hc00
          have kt0 : decide (0 < k) = true := decide_eq_true hk0
          have kt1 : decide ((0 : Int) < (k : Int)) = true := decide_eq_true (by omega)
          have n00 : (0 : Int) < (N : Int) := by omega
          have n01 : 0 < N := by omega
          obtain ⟨p5, hp5'⟩ : ∃ p, a0.length = p := ⟨_, rfl⟩
          have ks5 := fun w => slice_runh A5 p5 c5 3 (by omega) (3 : Int) rfl w
          have hs5 := fun (m : Nat) => ((hs00.below (W' := wr.drewN m) (below_drewN (Below.refl _ _) m)).take 3 (by omega) (.inr trivial)).str
          rw [hp5'] at hc00
          rw [h30] at hs5
          obtain ⟨S2, hS2⟩ : ∃ S : ByteArray, S = ⟨(l.take 3).toArray⟩ := ⟨_, rfl⟩
          rw [← hS2] at hs5
          have hbn := str_bne (a.take 3) (l.take 3)
          rw [← hS1, ← hS2] at hbn
          by_cases h3 : a.take 3 = l.take 3
          · rw [decide_eq_true h3] at hbn
            have HNX := Lib.hid (hl3.out h3)
            clear hS1 hS2 h3 h30 hs00 hp5' hc5 hl3 hl4
            by_cases hx45 : x3 = 45
            · have hne : lastC a = false := by rw [HLC.out]; simp; have := HX5.out; omega
              have hnext : Hid (rpL (l.take 3) (ls.drop (k + 1)) (u + p) = R) := by show _ = _; have := HNX.out; rw [hne, if_neg (by decide), if_pos hx45] at this; exact this
              have q1 : ((x3 : Int) == 45) = true := by simp; omega
              have q2 : (x3 == 45) = true := by simp [hx45]
              clear hne hx45
              go_wp2_with fail
              go_quiet (fail)
              go_wp2
              go_roundw
              case rel => exact ⟨k + 1, u + p, ⟨by go_num, by omega, hup⟩, by first | rfl | (rw [HW2.out]), hnext, HF1, HN5, below_drewN HBW.out _⟩
              case measure => simp [intOf]; omega
            · have q1 : ((x3 : Int) == 45) = false := by simp; omega
              have q2 : (x3 == 45) = false := by simp [hx45]
              by_cases hla : lastC a = true
              · have hRs : R = some (CN, u + p) := by have := HNX.out; rw [if_pos hla] at this; exact this.symm
                subst hRs
                rw [HLC.out] at hla
                simp only [Bool.or_eq_true, decide_eq_true_eq] at hla
                by_cases hx32 : x3 = 32
                · have q3 : ((x3 : Int) != 32) = false := by simp; omega
                  have q4 : (x3 != 32) = false := by simp [hx32]
                  clear hla hx45 hx32
                  go_wp2_with fail
                  go_quiet (fail)
                  go_wp2
                  go_quiet (fail)
                  go_wp2
                  go_ret3
                  exact ⟨_, by (show Ending.returned (.tuple #[.int .i64 (100 * ((x0 : Int) - 48) + 10 * ((x1 : Int) - 48) + ((x2 : Int) - 48)), _, _]) = _); rw [HCD.out]; rfl, HFIN.out, below_drewN (below_drewN (HB2.out.trans (HBW.out.mono HB2.out.size)) _) _⟩
                · have hp5e : p = 5 := by omega
                  have q3 : ((x3 : Int) != 32) = true := by simp; omega
                  have q4 : (x3 != 32) = true := by simp [hx32]
                  have q5 : ((p : Int) != 5) = false := by simp; omega
                  have q6 : (p != 5) = false := by simp [hp5e]
                  clear hla hx45 hx32 hp5e
                  go_wp2_with fail
                  go_quiet (fail)
                  go_wp2
                  go_quiet (fail)
                  go_wp2
                  go_ret3
                  exact ⟨_, by (show Ending.returned (.tuple #[.int .i64 (100 * ((x0 : Int) - 48) + 10 * ((x1 : Int) - 48) + ((x2 : Int) - 48)), _, _]) = _); rw [HCD.out]; rfl, HFIN.out, below_drewN (below_drewN (HB2.out.trans (HBW.out.mono HB2.out.size)) _) _⟩
              · have hRn : R = none := by have := HNX.out; rw [if_neg hla, if_neg hx45] at this; exact this.symm
                subst hRn
                rw [HLC.out] at hla
                simp only [Bool.or_eq_true, decide_eq_true_eq] at hla
                have q3 : ((x3 : Int) != 32) = true := by simp; omega
                have q4 : (x3 != 32) = true := by simp only [bne_iff_ne]; omega
                have q5 : ((p : Int) != 5) = true := by simp; omega
                have q6 : (p != 5) = true := by simp only [bne_iff_ne]; omega
                clear hla hx45
                go_wp2_with fail
                go_quiet (fail)
                go_wp2
                go_ret3
                exact ⟨_, rfl, (fun W h => by rw [show rpU none = 0 from rfl, List.drop_zero]; exact h), below_drewN (HB2.out.trans (HBW.out.mono HB2.out.size)) _⟩
          · rw [decide_eq_false h3] at hbn
            have hRn := hl4.out h3
            subst hRn
            clear hS1 hS2 h3 h30 hs00 hp5' hc5 hl3 hl4
            go_wp2_with fail
            go_quiet (fail)
            go_wp2
            go_ret3
            exact ⟨_, rfl, (fun W h => by rw [show rpU none = 0 from rfl, List.drop_zero]; exact h), below_drewN (HB2.out.trans (HBW.out.mono HB2.out.size)) _⟩
        · have kt0 : decide (0 < k) = false := decide_eq_false hk0
          have kt1 : decide ((0 : Int) < (k : Int)) = false := decide_eq_false (by omega)
          have HNX := Lib.hid (hl3.out (HONE.out (by omega) (by omega)))
          clear hl3 hl4 hS1
          by_cases hx45 : x3 = 45
          · have hne : lastC a = false := by rw [HLC.out]; simp; have := HX5.out; omega
            have hnext : Hid (rpL (l.take 3) (ls.drop (k + 1)) (u + p) = R) := by show _ = _; have := HNX.out; rw [hne, if_neg (by decide), if_pos hx45] at this; exact this
            have q1 : ((x3 : Int) == 45) = true := by simp; omega
            have q2 : (x3 == 45) = true := by simp [hx45]
            clear hne hx45
            go_wp2_with fail
            go_quiet (fail)
            go_wp2
            go_roundw
            case rel => exact ⟨k + 1, u + p, ⟨by go_num, by omega, hup⟩, by first | rfl | (rw [HW2.out]), hnext, HF1, HN5, below_drewN HBW.out _⟩
            case measure => simp [intOf]; omega
          · have q1 : ((x3 : Int) == 45) = false := by simp; omega
            have q2 : (x3 == 45) = false := by simp [hx45]
            by_cases hla : lastC a = true
            · have hRs : R = some (CN, u + p) := by have := HNX.out; rw [if_pos hla] at this; exact this.symm
              subst hRs
              rw [HLC.out] at hla
              simp only [Bool.or_eq_true, decide_eq_true_eq] at hla
              by_cases hx32 : x3 = 32
              · have q3 : ((x3 : Int) != 32) = false := by simp; omega
                have q4 : (x3 != 32) = false := by simp [hx32]
                clear hla hx45 hx32
                go_wp2_with fail
                go_quiet (fail)
                go_wp2
                go_quiet (fail)
                go_wp2
                go_ret3
                exact ⟨_, by (show Ending.returned (.tuple #[.int .i64 (100 * ((x0 : Int) - 48) + 10 * ((x1 : Int) - 48) + ((x2 : Int) - 48)), _, _]) = _); rw [HCD.out]; rfl, HFIN.out, below_drewN (below_drewN (HB2.out.trans (HBW.out.mono HB2.out.size)) _) _⟩
              · have hp5e : p = 5 := by omega
                have q3 : ((x3 : Int) != 32) = true := by simp; omega
                have q4 : (x3 != 32) = true := by simp [hx32]
                have q5 : ((p : Int) != 5) = false := by simp; omega
                have q6 : (p != 5) = false := by simp [hp5e]
                clear hla hx45 hx32 hp5e
                go_wp2_with fail
                go_quiet (fail)
                go_wp2
                go_quiet (fail)
                go_wp2
                go_ret3
                exact ⟨_, by (show Ending.returned (.tuple #[.int .i64 (100 * ((x0 : Int) - 48) + 10 * ((x1 : Int) - 48) + ((x2 : Int) - 48)), _, _]) = _); rw [HCD.out]; rfl, HFIN.out, below_drewN (below_drewN (HB2.out.trans (HBW.out.mono HB2.out.size)) _) _⟩
            · have hRn : R = none := by have := HNX.out; rw [if_neg hla, if_neg hx45] at this; exact this.symm
              subst hRn
              rw [HLC.out] at hla
              simp only [Bool.or_eq_true, decide_eq_true_eq] at hla
              have q3 : ((x3 : Int) != 32) = true := by simp; omega
              have q4 : (x3 != 32) = true := by simp only [bne_iff_ne]; omega
              have q5 : ((p : Int) != 5) = true := by simp; omega
              have q6 : (p != 5) = true := by simp only [bne_iff_ne]; omega
              clear hla hx45
              go_wp2_with fail
              go_quiet (fail)
              go_wp2
              go_ret3
              exact ⟨_, rfl, (fun W h => by rw [show rpU none = 0 from rfl, List.drop_zero]; exact h), below_drewN (HB2.out.trans (HBW.out.mono HB2.out.size)) _⟩
    · have d0 : decide (k < N) = false := decide_eq_false hlt
      have d0' : decide ((k : Int) < (N : Int)) = false := decide_eq_false (by omega)
      have hRn : R = none := by rw [← hrp.out, List.drop_eq_nil_of_le (by rw [HNN.out]; omega)]; rfl
      subst hRn
      have HBW := Lib.hid hbw.out
      clear hrp hfl h5 hbw
      go_wp2
      go_ret3
      exact ⟨_, rfl, (fun W h => by rw [show rpU none = 0 from rfl, List.drop_zero]; exact h), HB2.out.trans (HBW.out.mono HB2.out.size)⟩
end Go.Proofs.Ytlgodokgebjjaaa

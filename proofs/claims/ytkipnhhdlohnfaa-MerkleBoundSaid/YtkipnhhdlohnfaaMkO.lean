/- merkle.Verify. -/
import Derived.RangeFuncNested
import Derived.RangeFuncBound
import Derived.RangeFuncCalls
import Derived.RangeFuncLeaves
import Derived.Shelf.Abstract
import Derived.Shelf.RegionOpen
import Derived.WalkKit
import Derived.OwnWalkIn
import Derived.TacticsInMore
import Derived.LoopNIn
import Derived.LoopIn
import Derived.Outline
import Derived.Lib.Hide
import Derived.Lib.SliceRun
import Derived.IntWalk
import Derived.WalkLawsBesides
import Derived.WalkSpells
import Derived.Laws.BitsAllLaws
import Derived.Lib.ConvBytes
import Derived.Maps.AppendAt
import Derived.Lib.AppendStr
import Derived.Lib.SlBytesConst
import Derived.Laws.AppendOwnNone
import Derived.Laws.OwnMore
import Derived.Laws.BytesArg
import Derived.Deep.RegionHeld3
import Derived.BigQuiet
import Derived.Deep.RegionLaw
import Derived.Deep.QuietTactic
import Derived.Lib.OthersKept
import Derived.Test.YtkipnhhdlohnfaaProg
import Derived.Deep.DeepFit
import Derived.Test.YtkipnhhdlohnfaaMkN
set_option linter.unusedVariables false
set_option linter.unusedSimpArgs false
namespace Go.Proofs.Ytkipnhhdlohnfaa
open Go Go.RowKit Go.Shelf

/-- q steps up from a leaf -/
def clb (ts : List Bool) (ps : List (List UInt8)) (x : List UInt8) : Nat → List UInt8
  | 0 => x
  | q + 1 => if (ts[q]?.getD false) = true then nodeL (ps[q]?.getD []) (clb ts ps x q) else nodeL (clb ts ps x q) (ps[q]?.getD [])
theorem clb_length (ts : List Bool) (ps : List (List UInt8)) (x : List UInt8) (hx : x.length = 32) : ∀ q, (clb ts ps x q).length = 32
  | 0 => hx
  | q + 1 => by
    unfold clb
    split <;> exact nodeL_length _ _
theorem two_boxed (w : World) (a b : List Value) : ∃ W A, (w.alloc (.cells a.toArray 24)).alloc (.cells b.toArray 24) = W ∧ w.heap.size = A ∧ W.heap.size = A + 2 ∧ Row W A 24 a ∧ Row W (A + 1) 24 b ∧ Mine A w W := by
  have hs1 : (w.alloc (.cells a.toArray 24)).heap.size = w.heap.size + 1 := by show (w.heap.push _).size = _; simp
  have hs2 : ((w.alloc (.cells a.toArray 24)).alloc (.cells b.toArray 24)).heap.size = w.heap.size + 2 := by
    show ((w.alloc (.cells a.toArray 24)).heap.push _).size = _
    rw [Array.size_push, hs1]
  refine ⟨_, _, rfl, rfl, hs2, (Row.new w a.toArray 24).alloc _, ?_, ⟨by rw [hs2]; omega, ((Below.refl _ w).alloc (Nat.le_refl _) _).alloc (by omega) _⟩⟩
  rw [← hs1]; exact Row.new _ b.toArray 24

set_option maxHeartbeats 4000000 in
set_option maxRecDepth 100000 in
theorem verify_in (root leaf : List UInt8) (n i : Nat) (pv : Value) (ps : List (List UInt8)) (w : World) (hr : root.length = 32) (hl : leaf.length = 32) (hv : HS w pv ps) (hi : i < n) (hn : n ≤ 9223372036854775807) (hlen : (turnsL n i).length = ps.length) :
    Calls Try.prog 35 #[.agg (enc8 root).toArray, .int .i64 (n : Int), .int .i64 (i : Int), .agg (enc8 leaf).toArray, pv] w fun e w' => e = .returned (.bool (clb (turnsL n i).reverse ps leaf ps.length == root)) ∧ Below w.heap.size w w' := by
  obtain ⟨C, c, rfl, hc, -⟩ := hv.form
  obtain ⟨W, A, hW, hA, hsz, r0, r1, hm⟩ := two_boxed w (enc8 root) (enc8 leaf)
  have ht := turns_any n i hn hi W
  obtain ⟨ts, hts⟩ : ∃ ts, turnsL n i = ts := ⟨_, rfl⟩
  rw [hts] at ht hlen ⊢
  have hcl := clb_length ts.reverse ps leaf hl
  have heq := fun w => run_eql_sum (clb ts.reverse ps leaf ps.length) root (hcl _) hr w
  obtain ⟨res, hres⟩ : ∃ res, (clb ts.reverse ps leaf ps.length == root) = res := ⟨_, rfl⟩
  rw [hres] at heq ⊢
  have hstep : ∀ q, clb ts.reverse ps leaf (q + 1) = if (ts.reverse[q]?.getD false) = true then nodeL (ps[q]?.getD []) (clb ts.reverse ps leaf q) else nodeL (clb ts.reverse ps leaf q) (ps[q]?.getD []) := fun q => rfl
  have h0 : clb ts.reverse ps leaf 0 = leaf := rfl
  obtain ⟨f, hf⟩ : ∃ f, clb ts.reverse ps leaf = f := ⟨_, rfl⟩
  rw [hf] at hcl heq hstep h0
  obtain ⟨L, hL⟩ : ∃ L, ps.length = L := ⟨_, rfl⟩
  have i0 := info32 root hr
  have i1 := info32 leaf hl
  obtain ⟨ar, har⟩ : ∃ ar, enc8 root = ar := ⟨_, rfl⟩
  obtain ⟨al, hal⟩ : ∃ al, enc8 leaf = al := ⟨_, rfl⟩
  have l1 : al.length = 32 := by rw [← hal, enc8_len, hl]
  have f1 : al.toArray.all (·.oneCell') = true := by rw [← hal]; exact enc8_all _
  rw [har] at hW r0 i0 heq
  rw [hal] at hW r1 i1
  rw [hL] at hlen heq hc ⊢
  rw [har, hal]
  have HV := Lib.hid hv
  have HT := Lib.hid ht
  have HW := Lib.hid hW
  have HM := Lib.hid hm
  have R0 := Lib.hid r0
  have R1 := Lib.hid r1
  have I0 := Lib.hid i0
  have I1 := Lib.hid i1
  have L1 := Lib.hid l1
  have F1 := Lib.hid f1
  have HCL := Lib.hid hcl
  have HEQ := Lib.hid heq
  have HST := Lib.hid hstep
  have H0 := Lib.hid h0
  have HLL := Lib.hid hL
  have HAL := Lib.hid hal
  clear hv ht hW hm r0 r1 i0 i1 l1 f1 hcl heq hstep h0 hL har hal hts hres hf hl hr
  have g1 : decide ((i : Int) < 0) = false := by simp
  have g2 : decide ((n : Int) ≤ (i : Int)) = false := by simp; omega
  have g3 : decide (n ≤ i) = false := by simp; omega
  go_enter Try.func35, Try.ntmps35
  go_wp2_with fail
  rw [HW.out]
  refine HT.out.mono ?_
  rintro e w1 ⟨u, rfl, ho, hb1⟩
  obtain ⟨D, d, rfl, hd1, hd2, hcell⟩ := ho.form
  rw [hlen]
  have hR1 := (R1.out.belowS hb1)
  have m1 := HM.out.call hb1
  obtain ⟨W3, hW3, q12, hkeep, hb3⟩ := filled w1 al
  have M1 := Lib.hid m1
  have RA := Lib.hid (R0.out.belowS hb1)
  have RB := Lib.hid hR1
  have R12 : Hid (Row W3 w1.heap.size 24 (enc8 (f 0))) := by unfold Hid; rw [H0.out, HAL.out]; exact q12
  have M3 : Hid (Mine w1.heap.size w1 W3) := ⟨hb3.size, hb3⟩
  have RN := Lib.hid (Row.new w1 #[.int .u8 0, .int .u8 0, .int .u8 0, .int .u8 0, .int .u8 0, .int .u8 0, .int .u8 0, .int .u8 0, .int .u8 0, .int .u8 0, .int .u8 0, .int .u8 0, .int .u8 0, .int .u8 0, .int .u8 0, .int .u8 0, .int .u8 0, .int .u8 0, .int .u8 0, .int .u8 0, .int .u8 0, .int .u8 0, .int .u8 0, .int .u8 0, .int .u8 0, .int .u8 0, .int .u8 0, .int .u8 0, .int .u8 0, .int .u8 0, .int .u8 0, .int .u8 0] 24)
  have HW3 := Lib.hid hW3
  have HCELL := Lib.hid hcell
  obtain ⟨B, hB⟩ : ∃ B, w1.heap.size = B := ⟨_, rfl⟩
  rw [hB] at R12 M3 RN HW3
  have hAB : A + 1 < B := by have := M1.out.le; have := hsz; have := RB.out.lt; omega
  clear ho hb1 hR1 hkeep hb3 q12 m1 R0 R1 HM HT HW hW3 hcell
  have hlz : (L : Int) = (L : Int) := rfl
  go_wp2_with (first
    | (refine RB.out.load rfl 24 (.tmp 8) rfl rfl _ _ Try.underlying24 I1.out ?_)
    | (refine RN.out.store (m := al) rfl 24 (.tmp 12) (.tmp 30) rfl rfl rfl I1.out (by rw [L1.out]; rfl) F1.out ?_))
  rw [HW3.out]
  have RA3 := Lib.hid (Row.belowN (n := B) M3.out.bel RA.out (by omega))
  clear HW3 RN RB RA
  go_loopw [33] (fun x wr => ∃ q : Nat, (x = .int .i64 (q : Int) ∧ q ≤ L) ∧ Row wr B 24 (enc8 (f q)) ∧ Row wr A 24 ar ∧ Mine B w1 wr) (fun x _ => L - (intOf x).toNat)
  case atStart => exact ⟨0, ⟨rfl, by omega⟩, R12.out, RA3.out, M3.out⟩
  case round =>
    clear R12 RA3 M3
    obtain ⟨q, ⟨rfl, hq⟩, rB, rA, mm⟩ := hrel
    by_cases hlt : q < L
    · have hbw : Below w.heap.size w wr := by rw [hA]; exact (M1.out.bel.trans (mm.bel.mono (by omega)))
      obtain ⟨y, hy⟩ : ∃ y, ps[q]? = some y := ⟨_, List.getElem?_eq_getElem (by rw [HLL.out]; exact hlt)⟩
      obtain ⟨y32, -, g, o, rfl, py⟩ := (HV.out.below hbw).at_ q (by rw [HLL.out]; exact hlt) y hy
      obtain ⟨ix, hix⟩ : ∃ ix, L - 1 - q = ix := ⟨_, rfl⟩
      obtain ⟨t, ht⟩ : ∃ t, ts[ix]? = some t := ⟨_, List.getElem?_eq_getElem (by omega)⟩
      obtain ⟨gt, rfl, hBt, hct⟩ := HCELL.out (by omega)
      have hct := hct ix t ht
      have hlt1 := World.block_lt_of_cell? w1 _ hct
      rw [hB] at hlt1
      have hrev : ts.reverse[q]? = some t := by rw [List.getElem?_reverse (by omega), hlen, hix, ht]
      have hs := HST.out q
      rw [hrev, hy] at hs
      simp only [Option.getD_some] at hs
      have x1 : IntKind.i64.wrap ((L : Int) - 1) = (L : Int) - 1 := IntWalk.i64_in _ (by omega)
      have x2 : IntKind.i64.wrap ((L : Int) - 1 - (q : Int)) = (ix : Int) := by rw [IntWalk.i64_in _ (by omega)]; omega
      have hxl : ix < L := by omega
      have i2 := info32 y y32
      have i3 := info32 (f q) (HCL.out q)
      have f2 := enc8_all y
      obtain ⟨ay, hay⟩ : ∃ ay, enc8 y = ay := ⟨_, rfl⟩
      have l2 : ay.length = 32 := by rw [← hay, enc8_len, y32]
      rw [hay] at py i2 f2
      obtain ⟨W4, hW4, r14, hkp, hb4⟩ := filled wr ay
      have r12 := hkp _ _ _ rB
      have rA4 := hkp _ _ _ rA
      have m4 : Mine B w1 W4 := Mine.callN hb4 mm mm.le
      have hc4 : ((wr.alloc (.cells #[.int .u8 0, .int .u8 0, .int .u8 0, .int .u8 0, .int .u8 0, .int .u8 0, .int .u8 0, .int .u8 0, .int .u8 0, .int .u8 0, .int .u8 0, .int .u8 0, .int .u8 0, .int .u8 0, .int .u8 0, .int .u8 0, .int .u8 0, .int .u8 0, .int .u8 0, .int .u8 0, .int .u8 0, .int .u8 0, .int .u8 0, .int .u8 0, .int .u8 0, .int .u8 0, .int .u8 0, .int .u8 0, .int .u8 0, .int .u8 0, .int .u8 0, .int .u8 0] 24)).setRow wr.heap.size ay.toArray).cell? ⟨gt, ix, none⟩ = some (.bool t) := by
        rw [hW4]
        exact (m4.bel.cell (p := ⟨gt, ix, none⟩) hlt1).trans hct
      have rn := Row.new wr #[.int .u8 0, .int .u8 0, .int .u8 0, .int .u8 0, .int .u8 0, .int .u8 0, .int .u8 0, .int .u8 0, .int .u8 0, .int .u8 0, .int .u8 0, .int .u8 0, .int .u8 0, .int .u8 0, .int .u8 0, .int .u8 0, .int .u8 0, .int .u8 0, .int .u8 0, .int .u8 0, .int .u8 0, .int .u8 0, .int .u8 0, .int .u8 0, .int .u8 0, .int .u8 0, .int .u8 0, .int .u8 0, .int .u8 0, .int .u8 0, .int .u8 0, .int .u8 0] 24
      have nodeyx := fun w' => node_any y (f q) y32 (HCL.out q) w'
      have nodexy := fun w' => node_any (f q) y (HCL.out q) y32 w'
      rw [hay] at nodeyx nodexy
      have PY := Lib.hid py
      have I2 := Lib.hid i2
      have I3 := Lib.hid i3
      have F2 := Lib.hid f2
      have L2 := Lib.hid l2
      have HW4 := Lib.hid hW4
      have R14 := Lib.hid r14
      have R12 := Lib.hid r12
      have RA4 := Lib.hid rA4
      have M4 := Lib.hid m4
      have RN := Lib.hid rn
      have HX := Lib.hid hix
      have hi1 : IntKind.i64.wrap ((q : Int) + 1) = (q : Int) + 1 := IntWalk.i64_in _ (by omega)
      clear py i2 i3 f2 l2 hW4 r14 r12 rA4 m4 rn rB rA mm hkp hb4 hbw hy y32 hay ht hrev hct hix
      cases t with
      | true =>
        rw [if_pos rfl] at hs
        simp only [← hs] at nodeyx
        have HN := Lib.hid nodeyx
        clear nodeyx nodexy hs
        go_wp2_with (first
          | (refine wpList_load_mid rfl 24 (.tmp 36) rfl g (o + q * 32) rfl ay _ PY.out Try.underlying24 rfl I2.out ?_)
          | (refine RN.out.store (m := ay) rfl 24 (.tmp 14) (.tmp 37) rfl rfl rfl I2.out (by rw [L2.out]; rfl) F2.out ?_)
          | (rw [HW4.out]; refine R14.out.load rfl 24 (.tmp 14) rfl rfl _ _ Try.underlying24 I2.out ?_)
          | (refine R12.out.load rfl 24 (.tmp 12) rfl rfl _ _ Try.underlying24 I3.out ?_))
        refine (HN.out _).mono ?_
        rintro e w5 ⟨rfl, hb5⟩
        have rb5 := R12.out.belowS hb5
        have ra5 := RA4.out.belowS hb5
        have m5 := M4.out.call hb5
        have R5 := Lib.hid rb5
        have i5 := info32 (f (q + 1)) (HCL.out _)
        have RX := Lib.hid (rb5.setRow (enc8 (f (q + 1))))
        have RY := Lib.hid (ra5.setRow_ne (enc8 (f (q + 1))).toArray (g := B) (by omega))
        have MX : Hid (Mine B w1 (w5.setRow B (enc8 (f (q + 1))).toArray)) := ⟨by rw [setRow_size]; exact m5.le, below_setRow m5.bel (Nat.le_refl B) _⟩
        have I5 := Lib.hid i5
        have HC := Lib.hid (HCL.out q)
        have HC1 := Lib.hid (HCL.out (q + 1))
        clear rb5 ra5 m5 i5 hb5 R12 RA4 M4 HN
        go_wp2_with (refine R5.out.store (m := enc8 (f (q + 1))) rfl 24 (.tmp 12) (.tmp 48) rfl rfl rfl I5.out (by rw [enc8_len, enc8_len, HC.out, HC1.out]) (enc8_all _) ?_)
        go_roundw
        case rel => exact ⟨q + 1, ⟨by go_num, by omega⟩, RX.out, RY.out, MX.out⟩
        case measure => simp [intOf]; omega
      | false =>
        rw [if_neg (by decide)] at hs
        simp only [← hs] at nodexy
        have HN := Lib.hid nodexy
        clear nodeyx nodexy hs
        go_wp2_with (first
          | (refine wpList_load_mid rfl 24 (.tmp 36) rfl g (o + q * 32) rfl ay _ PY.out Try.underlying24 rfl I2.out ?_)
          | (refine RN.out.store (m := ay) rfl 24 (.tmp 14) (.tmp 37) rfl rfl rfl I2.out (by rw [L2.out]; rfl) F2.out ?_)
          | (rw [HW4.out]; refine R12.out.load rfl 24 (.tmp 12) rfl rfl _ _ Try.underlying24 I3.out ?_)
          | (refine R14.out.load rfl 24 (.tmp 14) rfl rfl _ _ Try.underlying24 I2.out ?_))
        refine (HN.out _).mono ?_
        rintro e w5 ⟨rfl, hb5⟩
        have rb5 := R12.out.belowS hb5
        have ra5 := RA4.out.belowS hb5
        have m5 := M4.out.call hb5
        have R5 := Lib.hid rb5
        have i5 := info32 (f (q + 1)) (HCL.out _)
        have RX := Lib.hid (rb5.setRow (enc8 (f (q + 1))))
        have RY := Lib.hid (ra5.setRow_ne (enc8 (f (q + 1))).toArray (g := B) (by omega))
        have MX : Hid (Mine B w1 (w5.setRow B (enc8 (f (q + 1))).toArray)) := ⟨by rw [setRow_size]; exact m5.le, below_setRow m5.bel (Nat.le_refl B) _⟩
        have I5 := Lib.hid i5
        have HC := Lib.hid (HCL.out q)
        have HC1 := Lib.hid (HCL.out (q + 1))
        clear rb5 ra5 m5 i5 hb5 R12 RA4 M4 HN
        go_wp2_with (refine R5.out.store (m := enc8 (f (q + 1))) rfl 24 (.tmp 12) (.tmp 51) rfl rfl rfl I5.out (by rw [enc8_len, enc8_len, HC.out, HC1.out]) (enc8_all _) ?_)
        go_roundw
        case rel => exact ⟨q + 1, ⟨by go_num, by omega⟩, RX.out, RY.out, MX.out⟩
        case measure => simp [intOf]; omega
    · obtain rfl : q = L := by omega
      have i3 := info32 (f q) (HCL.out q)
      have heq := HEQ.out
      have RB := Lib.hid rB
      have RA := Lib.hid rA
      have I3 := Lib.hid i3
      have HF : Hid (Below w.heap.size w wr) := by unfold Hid; rw [hA]; exact (M1.out.bel.trans (mm.bel.mono (by omega)))
      clear rB rA mm i3
      go_wp2_with (first
        | (refine RB.out.load rfl 24 (.tmp 12) rfl rfl _ _ Try.underlying24 I3.out ?_)
        | (refine RA.out.load rfl 24 (.tmp 5) rfl rfl _ _ Try.underlying24 I0.out ?_))
      go_ret
      exact ⟨rfl, HF.out⟩

set_option maxHeartbeats 2000000 in
set_option maxRecDepth 100000 in
theorem verify_out (root leaf : List UInt8) (n i : Int) (pv : Value) (w : World) (hi : ¬ (0 ≤ i ∧ i < n)) :
    Calls Try.prog 35 #[.agg (enc8 root).toArray, .int .i64 n, .int .i64 i, .agg (enc8 leaf).toArray, pv] w fun e w' => e = .returned (.bool false) ∧ Below w.heap.size w w' := by
  obtain ⟨W, A, hW, hA, hsz, r0, r1, hm⟩ := two_boxed w (enc8 root) (enc8 leaf)
  obtain ⟨ar, har⟩ : ∃ ar, enc8 root = ar := ⟨_, rfl⟩
  obtain ⟨al, hal⟩ : ∃ al, enc8 leaf = al := ⟨_, rfl⟩
  rw [har, hal] at hW ⊢
  have HB : Hid (Below w.heap.size w ((w.alloc (.cells ar.toArray 24)).alloc (.cells al.toArray 24))) := by unfold Hid; rw [hW, hA]; exact hm.bel
  clear hW hA hsz r0 r1 hm har hal
  by_cases h0 : 0 ≤ i
  · have h1 : n ≤ i := by omega
    clear hi
    go_enter Try.func35, Try.ntmps35
    go_wp2
    go_ret
    exact ⟨rfl, HB.out⟩
  · clear hi
    go_enter Try.func35, Try.ntmps35
    go_wp2
    go_ret
    exact ⟨rfl, HB.out⟩
set_option maxHeartbeats 2000000 in
set_option maxRecDepth 100000 in
theorem verify_len (root leaf : List UInt8) (n i : Nat) (pv : Value) (ps : List (List UInt8)) (w : World) (hv : HS w pv ps) (hi : i < n) (hn : n ≤ 9223372036854775807) (hlen : (turnsL n i).length ≠ ps.length) :
    Calls Try.prog 35 #[.agg (enc8 root).toArray, .int .i64 (n : Int), .int .i64 (i : Int), .agg (enc8 leaf).toArray, pv] w fun e w' => e = .returned (.bool false) ∧ Below w.heap.size w w' := by
  obtain ⟨C, c, rfl, hc, -⟩ := hv.form
  obtain ⟨W, A, hW, hA, hsz, r0, r1, hm⟩ := two_boxed w (enc8 root) (enc8 leaf)
  have ht := turns_any n i hn hi W
  obtain ⟨ts, hts⟩ : ∃ ts, turnsL n i = ts := ⟨_, rfl⟩
  rw [hts] at ht hlen
  obtain ⟨L, hL⟩ : ∃ L, ps.length = L := ⟨_, rfl⟩
  obtain ⟨ar, har⟩ : ∃ ar, enc8 root = ar := ⟨_, rfl⟩
  obtain ⟨al, hal⟩ : ∃ al, enc8 leaf = al := ⟨_, rfl⟩
  rw [har, hal] at hW ⊢
  rw [hL] at hlen ⊢
  have HT := Lib.hid ht
  have HW := Lib.hid hW
  have HM := Lib.hid hm
  clear hv ht hW hm r0 r1 hL har hal hts hsz
  have g1 : decide ((i : Int) < 0) = false := by simp
  have g2 : decide ((n : Int) ≤ (i : Int)) = false := by simp; omega
  have g3 : decide (n ≤ i) = false := by simp; omega
  go_enter Try.func35, Try.ntmps35
  go_wp2_with fail
  rw [HW.out]
  refine HT.out.mono ?_
  rintro e w1 ⟨u, rfl, ho, hb1⟩
  obtain ⟨D, d, rfl, -⟩ := ho.form
  have M1 := Lib.hid (HM.out.call hb1)
  obtain ⟨tl, htl⟩ : ∃ tl, ts.length = tl := ⟨_, rfl⟩
  rw [htl] at hlen ⊢
  have hq : ((tl : Int) == (L : Int)) = false := by simp; omega
  clear ho hb1 htl
  go_wp2
  go_ret
  exact ⟨rfl, by rw [hA]; exact M1.out.bel⟩
/-- whether sums prove a leaf -/
def verB (root : List UInt8) (n i : Int) (leaf : List UInt8) (ps : List (List UInt8)) : Bool :=
  if 0 ≤ i ∧ i < n ∧ (turnsL n.toNat i.toNat).length = ps.length then clb (turnsL n.toNat i.toNat).reverse ps leaf ps.length == root else false
/-- **merkle.Verify** -/
theorem verify_any (root leaf : List UInt8) (n i : Int) (pv : Value) (ps : List (List UInt8)) (w : World) (hr : root.length = 32) (hl : leaf.length = 32) (hv : HS w pv ps) (hn : n ≤ 9223372036854775807) :
    Calls Try.prog 35 #[.agg (enc8 root).toArray, .int .i64 n, .int .i64 i, .agg (enc8 leaf).toArray, pv] w fun e w' => e = .returned (.bool (verB root n i leaf ps)) ∧ Below w.heap.size w w' := by
  unfold verB
  by_cases h : 0 ≤ i ∧ i < n
  · obtain ⟨j, rfl⟩ : ∃ j : Nat, i = j := ⟨i.toNat, by omega⟩
    obtain ⟨p, rfl⟩ : ∃ p : Nat, n = p := ⟨n.toNat, by omega⟩
    simp only [Int.toNat_natCast]
    by_cases hlen : (turnsL p j).length = ps.length
    · rw [if_pos ⟨h.1, h.2, hlen⟩]
      exact verify_in root leaf p j pv ps w hr hl hv (by omega) (by omega) hlen
    · rw [if_neg (fun hh => hlen hh.2.2)]
      exact verify_len root leaf p j pv ps w hv (by omega) (by omega) hlen
  · rw [if_neg (fun hh => h ⟨hh.1, hh.2.1⟩)]
    exact verify_out root leaf n i pv w h
end Go.Proofs.Ytkipnhhdlohnfaa

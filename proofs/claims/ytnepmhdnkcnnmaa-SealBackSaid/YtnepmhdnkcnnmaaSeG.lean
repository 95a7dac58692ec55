/- slices of seals; Chain of both. -/
import Derived.RangeFuncNested
import Derived.RangeFuncBound
import Derived.RangeFuncCalls
import Derived.RangeFuncLeaves
import Derived.Shelf.Abstract
import Derived.Shelf.RegionOpen
import Derived.WalkKit
import Derived.OwnWalkIn
import Derived.TacticsInMore
import Derived.LoopNIn
import Derived.LoopIn
import Derived.Outline
import Derived.Lib.Hide
import Derived.Lib.SliceRun
import Derived.IntWalk
import Derived.WalkLawsBesides
import Derived.WalkSpells
import Derived.Laws.BitsAllLaws
import Derived.Lib.ConvBytes
import Derived.Maps.AppendAt
import Derived.Lib.AppendStr
import Derived.Lib.SlBytesConst
import Derived.Laws.AppendOwnNone
import Derived.Laws.OwnMore
import Derived.Laws.BytesArg
import Derived.Deep.RegionHeld3
import Derived.BigQuiet
import Derived.Deep.RegionLaw
import Derived.Deep.QuietTactic
import Derived.Lib.OthersKept
import Derived.Test.YtnepmhdnkcnnmaaProg
import Derived.Deep.DeepFit
import Derived.Test.YtnepmhdnkcnnmaaSeF
set_option linter.unusedVariables false
set_option linter.unusedSimpArgs false
namespace Go.Proofs.Ytnepmhdnkcnnmaa
open Go Go.RowKit Go.Shelf

/-- a seal -/
structure Sl where
  s : Int
  c : Int
  r : List UInt8
  p : List UInt8
def Sl.cells (x : Sl) : List Value := sealC x.s x.c x.r x.p
def Sl.ok (x : Sl) : Prop := x.r.length = 32 ∧ x.p.length = 32
/-- A VALUE IS A SLICE THAT READS AS THESE SEALS. -/
def GS (W : World) (v : Value) (xs : List Sl) : Prop :=
  (∀ x ∈ xs, x.ok) ∧ ((v = .slice none 0 0 ∧ xs = []) ∨
  ∃ ad c, v = .slice (some ad) xs.length c ∧ (xs.length ≤ c ∧ c ≤ 9223372036854775807) ∧ (0 < xs.length → ∃ g o, ad = ⟨g, o, none⟩ ∧ ∀ i x, xs[i]? = some x → W.rangeAt g (o + i * 66) x.cells))
theorem GS.form {W : World} {v : Value} {xs : List Sl} (h : GS W v xs) :
    ∃ A c, v = .slice A xs.length c ∧ (xs.length ≤ c ∧ c ≤ 9223372036854775807) ∧ (0 < xs.length → ∃ g o, A = some ⟨g, o, none⟩ ∧ ∀ i x, xs[i]? = some x → W.rangeAt g (o + i * 66) x.cells) := by
  rcases h.2 with ⟨rfl, rfl⟩ | ⟨ad, c, rfl, h1, h3⟩
  · exact ⟨none, 0, rfl, by simp, fun h => by simp at h⟩
  · exact ⟨some ad, c, rfl, h1, fun h => by obtain ⟨g, o, rfl, hc⟩ := h3 h; exact ⟨g, o, rfl, hc⟩⟩
theorem GS.below {W W' : World} {v : Value} {xs : List Sl} (h : GS W v xs) (hb : Below W.heap.size W W') : GS W' v xs := by
  refine ⟨h.1, ?_⟩
  rcases h.2 with ⟨rfl, rfl⟩ | ⟨ad, c, rfl, h1, h3⟩
  · exact .inl ⟨rfl, rfl⟩
  · refine .inr ⟨ad, c, rfl, h1, fun h => ?_⟩
    obtain ⟨g, o, rfl, hc⟩ := h3 h
    exact ⟨g, o, rfl, fun i x hx => rangeAt_below (hc i x hx) hb⟩
theorem GS_nil (w : World) : GS w (.slice none 0 0) [] := ⟨by simp, .inl ⟨rfl, rfl⟩⟩
theorem GS.at_ {W : World} {A : Option Addr} {n c : Nat} {xs : List Sl} (h : GS W (.slice A n c) xs) (i : Nat) (x : Sl) (hx : xs[i]? = some x) :
    x.ok ∧ ∃ g o, A = some ⟨g, o, none⟩ ∧ W.rangeAt g (o + i * 66) x.cells := by
  have hi : i < xs.length := (List.getElem?_eq_some_iff.1 hx).1
  refine ⟨h.1 x (List.mem_of_getElem? hx), ?_⟩
  rcases h.2 with ⟨_, rfl⟩ | ⟨ad, c', he, h1, h3⟩
  · simp at hi
  · cases he
    obtain ⟨g, o, rfl, hc⟩ := h3 (by omega)
    exact ⟨g, o, rfl, hc i x hx⟩

/-- the first that isn't bound -/
def chainGo : List Sl → Nat → Int → List UInt8 → Nat
  | [], i, _, _ => i
  | x :: r, i, seg, prev => if x.s ≤ seg then i else if x.p ≠ prev then i else chainGo r (i + 1) x.s (sumL (sealB x.s x.c x.r x.p))
theorem chainGo_step (xs : List Sl) (i : Nat) (x : Sl) (hx : xs[i]? = some x) (seg : Int) (prev : List UInt8) :
    chainGo (xs.drop i) i seg prev = if x.s ≤ seg then i else if x.p ≠ prev then i else chainGo (xs.drop (i + 1)) (i + 1) x.s (sumL (sealB x.s x.c x.r x.p)) := by
  have hi : i < xs.length := (List.getElem?_eq_some_iff.1 hx).1
  rw [List.drop_eq_getElem_cons hi]
  rw [List.getElem?_eq_getElem hi] at hx
  cases hx
  rfl
def Z32b : List UInt8 := List.replicate 32 0
theorem enc_Z32b : enc8 Z32b = Z32 := rfl
def chainN (xs : List Sl) : Nat := chainGo xs 0 0 Z32b

set_option maxHeartbeats 4000000 in
set_option maxRecDepth 100000 in
/-- **seal.Chain** -/
theorem chain_any (v : Value) (xs : List Sl) (w : World) (hv : GS w v xs) :
    Calls Try.prog 18 #[v] w fun e w' => e = .returned (.int .i64 (chainN xs : Int)) ∧ Below w.heap.size w w' := by
  obtain ⟨C, cc, rfl, ⟨hc1, hc2⟩, -⟩ := hv.form
  obtain ⟨A, hA⟩ : ∃ A, w.heap.size = A := ⟨_, rfl⟩
  have r0 : Row (w.alloc (.cells #[.int .u8 0, .int .u8 0, .int .u8 0, .int .u8 0, .int .u8 0, .int .u8 0, .int .u8 0, .int .u8 0, .int .u8 0, .int .u8 0, .int .u8 0, .int .u8 0, .int .u8 0, .int .u8 0, .int .u8 0, .int .u8 0, .int .u8 0, .int .u8 0, .int .u8 0, .int .u8 0, .int .u8 0, .int .u8 0, .int .u8 0, .int .u8 0, .int .u8 0, .int .u8 0, .int .u8 0, .int .u8 0, .int .u8 0, .int .u8 0, .int .u8 0, .int .u8 0] 23)) A 23 (enc8 Z32b) := by rw [← hA]; exact Row.new w #[.int .u8 0, .int .u8 0, .int .u8 0, .int .u8 0, .int .u8 0, .int .u8 0, .int .u8 0, .int .u8 0, .int .u8 0, .int .u8 0, .int .u8 0, .int .u8 0, .int .u8 0, .int .u8 0, .int .u8 0, .int .u8 0, .int .u8 0, .int .u8 0, .int .u8 0, .int .u8 0, .int .u8 0, .int .u8 0, .int .u8 0, .int .u8 0, .int .u8 0, .int .u8 0, .int .u8 0, .int .u8 0, .int .u8 0, .int .u8 0, .int .u8 0, .int .u8 0] 23
  have m0 : Mine A w (w.alloc (.cells #[.int .u8 0, .int .u8 0, .int .u8 0, .int .u8 0, .int .u8 0, .int .u8 0, .int .u8 0, .int .u8 0, .int .u8 0, .int .u8 0, .int .u8 0, .int .u8 0, .int .u8 0, .int .u8 0, .int .u8 0, .int .u8 0, .int .u8 0, .int .u8 0, .int .u8 0, .int .u8 0, .int .u8 0, .int .u8 0, .int .u8 0, .int .u8 0, .int .u8 0, .int .u8 0, .int .u8 0, .int .u8 0, .int .u8 0, .int .u8 0, .int .u8 0, .int .u8 0] 23)) := Mine.alloc ⟨by omega, Below.refl _ _⟩ _
  obtain ⟨n, hn⟩ : ∃ n, xs.length = n := ⟨_, rfl⟩
  obtain ⟨N, hN⟩ : ∃ N, chainN xs = N := ⟨_, rfl⟩
  have hN0 : chainGo (xs.drop 0) 0 0 Z32b = N := hN
  have HN0 := Lib.hid hN0
  have HV := Lib.hid hv
  have HN := Lib.hid hn
  have R0 := Lib.hid r0
  have M0 := Lib.hid m0
  have HZ := Lib.hid (show Z32b.length = 32 by decide)
  rw [hN]
  rw [hn] at HV hc1 ⊢
  clear hv hn r0 m0 hN hN0
  go_enter Try.func18, Try.ntmps18
  go_wp2
  go_loopw [9, 4] (fun x y wr => ∃ i : Nat, ∃ seg : Int, ∃ prev : List UInt8, (x = .int .i64 (i : Int) ∧ i ≤ n ∧ y = .int .i64 seg) ∧ prev.length = 32 ∧ (wr.rangeAt A 0 (enc8 prev) ∧ wr.there A 0 32) ∧ Mine A w wr ∧ chainGo (xs.drop i) i seg prev = N) (fun x _ _ => n - (intOf x).toNat)
  case atStart => exact ⟨0, 0, Z32b, ⟨rfl, by omega, rfl⟩, HZ.out, ⟨R0.out.range, R0.out.there 32 rfl⟩, M0.out, HN0.out⟩
  case round =>
    clear R0 M0 HN0 HZ
    obtain ⟨i, seg, prev, ⟨rfl, hi, rfl⟩, hpl, ⟨ra, rth⟩, mm, hgo⟩ := hrel
    by_cases hlt : i < n
    · have hx : xs[i]? = some (xs[i]'(by rw [HN.out]; exact hlt)) := List.getElem?_eq_getElem _
      obtain ⟨⟨s, c, r, p⟩, hxe⟩ : ∃ x, xs[i]'(by rw [HN.out]; exact hlt) = x := ⟨_, rfl⟩
      rw [hxe] at hx
      rw [chainGo_step xs i _ hx] at hgo
      simp only at hgo
      obtain ⟨⟨hr, hp⟩, g, o, rfl, hcells⟩ := (HV.out.below (hA ▸ mm.bel)).at_ i _ hx
      simp only at hr hp
      have hsum := fun w => ssum_any s c r p hr hp w
      have hC0 : ∀ W, Row W (wr.heap.size) 27 (sealC s c r p) → W.cell? ⟨wr.heap.size, 0, none⟩ = some (.int .i64 s) := fun W h => by rw [h.cell 0]; rfl
      have hneq := fun w => run_neq_sum p prev hp hpl w
      obtain ⟨out, hout⟩ : ∃ out, sumL (sealB s c r p) = out := ⟨_, rfl⟩
      have hol : out.length = 32 := by rw [← hout]; exact sumL_length _
      rw [hout] at hgo
      simp only [hout] at hsum
      have hl := sealC_len s c r p hr hp
      have hsi := info66 _ hl
      have hso := all_oneCell_toArray (sealC_one s c r p)
      obtain ⟨sc, hsc⟩ : ∃ sc, sealC s c r p = sc := ⟨_, rfl⟩
      have hcells' : wr.rangeAt g (o + i * 66) sc := by rw [← hsc]; exact hcells
      simp only [hsc] at hsum hsi hso hl hC0
      obtain ⟨W, hW, rw1, hkeep, hbw⟩ := filledS wr #[.int .i64 0, .int .i64 0, .int .u8 0, .int .u8 0, .int .u8 0, .int .u8 0, .int .u8 0, .int .u8 0, .int .u8 0, .int .u8 0, .int .u8 0, .int .u8 0, .int .u8 0, .int .u8 0, .int .u8 0, .int .u8 0, .int .u8 0, .int .u8 0, .int .u8 0, .int .u8 0, .int .u8 0, .int .u8 0, .int .u8 0, .int .u8 0, .int .u8 0, .int .u8 0, .int .u8 0, .int .u8 0, .int .u8 0, .int .u8 0, .int .u8 0, .int .u8 0, .int .u8 0, .int .u8 0, .int .u8 0, .int .u8 0, .int .u8 0, .int .u8 0, .int .u8 0, .int .u8 0, .int .u8 0, .int .u8 0, .int .u8 0, .int .u8 0, .int .u8 0, .int .u8 0, .int .u8 0, .int .u8 0, .int .u8 0, .int .u8 0, .int .u8 0, .int .u8 0, .int .u8 0, .int .u8 0, .int .u8 0, .int .u8 0, .int .u8 0, .int .u8 0, .int .u8 0, .int .u8 0, .int .u8 0, .int .u8 0, .int .u8 0, .int .u8 0, .int .u8 0, .int .u8 0] sc
      have rn := Row.new wr #[.int .i64 0, .int .i64 0, .int .u8 0, .int .u8 0, .int .u8 0, .int .u8 0, .int .u8 0, .int .u8 0, .int .u8 0, .int .u8 0, .int .u8 0, .int .u8 0, .int .u8 0, .int .u8 0, .int .u8 0, .int .u8 0, .int .u8 0, .int .u8 0, .int .u8 0, .int .u8 0, .int .u8 0, .int .u8 0, .int .u8 0, .int .u8 0, .int .u8 0, .int .u8 0, .int .u8 0, .int .u8 0, .int .u8 0, .int .u8 0, .int .u8 0, .int .u8 0, .int .u8 0, .int .u8 0, .int .u8 0, .int .u8 0, .int .u8 0, .int .u8 0, .int .u8 0, .int .u8 0, .int .u8 0, .int .u8 0, .int .u8 0, .int .u8 0, .int .u8 0, .int .u8 0, .int .u8 0, .int .u8 0, .int .u8 0, .int .u8 0, .int .u8 0, .int .u8 0, .int .u8 0, .int .u8 0, .int .u8 0, .int .u8 0, .int .u8 0, .int .u8 0, .int .u8 0, .int .u8 0, .int .u8 0, .int .u8 0, .int .u8 0, .int .u8 0, .int .u8 0, .int .u8 0] 27
      obtain ⟨B, hB⟩ : ∃ B, wr.heap.size = B := ⟨_, rfl⟩
      rw [hB] at hW rw1
      simp only [hB] at hC0
      have rn' : Row (wr.alloc (.cells #[.int .i64 0, .int .i64 0, .int .u8 0, .int .u8 0, .int .u8 0, .int .u8 0, .int .u8 0, .int .u8 0, .int .u8 0, .int .u8 0, .int .u8 0, .int .u8 0, .int .u8 0, .int .u8 0, .int .u8 0, .int .u8 0, .int .u8 0, .int .u8 0, .int .u8 0, .int .u8 0, .int .u8 0, .int .u8 0, .int .u8 0, .int .u8 0, .int .u8 0, .int .u8 0, .int .u8 0, .int .u8 0, .int .u8 0, .int .u8 0, .int .u8 0, .int .u8 0, .int .u8 0, .int .u8 0, .int .u8 0, .int .u8 0, .int .u8 0, .int .u8 0, .int .u8 0, .int .u8 0, .int .u8 0, .int .u8 0, .int .u8 0, .int .u8 0, .int .u8 0, .int .u8 0, .int .u8 0, .int .u8 0, .int .u8 0, .int .u8 0, .int .u8 0, .int .u8 0, .int .u8 0, .int .u8 0, .int .u8 0, .int .u8 0, .int .u8 0, .int .u8 0, .int .u8 0, .int .u8 0, .int .u8 0, .int .u8 0, .int .u8 0, .int .u8 0, .int .u8 0, .int .u8 0] 27)) B 27 ZS := by rw [← hB]; exact rn
      have hAB : A < B := by rw [← hB]; exact World.block_lt_of_cell? wr _ (ra 0 (.int .u8 (gb prev 0)) (enc8_get prev 0 (by omega)))
      have ra1 := rangeAt_below ra hbw
      have c0 : W.cell? ⟨B, 0, none⟩ = some (.int .i64 s) := by rw [rw1.cell 0, ← hsc]; rfl
      have hp34 : W.rangeAt B 34 (enc8 p) := by
        intro j v hj
        rw [rw1.cell (34 + j), ← hsc]
        unfold sealC
        rw [show 34 + j = (32 + j) + 1 + 1 by omega, List.getElem?_cons_succ, List.getElem?_cons_succ, List.getElem?_append_right (by rw [enc8_len]; omega), enc8_len, hr, show 32 + j - 32 = j by omega, hj]
      have hip := info32 p hp
      have hipr := info32 prev hpl
      have hio := info32 out hol
      have ho1 := enc8_one out
      have hml := mm.call hbw
      have lo : (enc8 out).length = 32 := by rw [enc8_len, hol]
      have eo : enc8 out = enc8 out := rfl
      have hthA : W.there A 0 32 := there_below rth hbw
      obtain ⟨ap, hap⟩ : ∃ ap, enc8 p = ap := ⟨_, rfl⟩
      obtain ⟨apr, hapr⟩ : ∃ apr, enc8 prev = apr := ⟨_, rfl⟩
      rw [hap] at hneq hp34 hip
      rw [hapr] at hneq ra1 hipr
      have x5 : IntKind.i64.wrap ((i : Int) + 1) = (i : Int) + 1 := IntWalk.i64_in _ (by omega)
      have HCL := Lib.hid hcells'
      have HSI := Lib.hid hsi
      have HSO := Lib.hid hso
      have HL := Lib.hid hl
      have RN := Lib.hid rn'
      have HW := Lib.hid hW
      have RW := Lib.hid rw1
      have RA := Lib.hid ra1
      have HP := Lib.hid hp34
      have HIP := Lib.hid hip
      have HIR := Lib.hid hipr
      have HM := Lib.hid hml
      have HC0 := Lib.hid hC0
      have HGO := Lib.hid hgo
      have HSUM := Lib.hid hsum
      have HIO := Lib.hid hio
      have HO1 := Lib.hid ho1
      have HTH := Lib.hid hthA
      have HOL := Lib.hid hol
      have HLO := Lib.hid lo
      clear hC0 rth hcells' hcells hsi hso hl rn' rn hW rw1 ra1 hp34 hip hipr hml hgo hsum hio ho1 hthA hol hout hx hxe hr hp hsc ra mm hpl hkeep hbw lo eo hap hapr
      have kz := zeroSeal
      by_cases hle : s ≤ seg
      · have hfin := HGO.out
        rw [if_pos hle] at hfin
        subst hfin
        have d1 : decide (s ≤ seg) = true := by simpa using hle
        clear HSUM hneq
        go_wp2_with (first
          | (refine wpList_load_mid rfl 27 (.tmp 12) rfl g (o + i * 66) rfl sc _ HCL.out Try.underlying27 rfl HSI.out ?_)
          | (refine RN.out.store (m := sc) rfl 27 (.tmp 6) (.tmp 13) rfl rfl rfl HSI.out (by rw [HL.out]; rfl) HSO.out ?_)
          | (rw [HW.out]; fail_if_success (rw [HW.out])))
        go_ret
        exact ⟨rfl, by first | exact HM.out.bel | (rw [hA]; exact HM.out.bel)⟩
      · have d1 : decide (s ≤ seg) = false := by simpa using hle
        by_cases hpp : p = prev
        · have hfin := HGO.out
          rw [if_neg hle, if_neg (by simpa using hpp)] at hfin
          have dpp : (p == prev) = true := by simpa using hpp
          simp only [dpp, Bool.not_true] at hneq
          have HG := Lib.hid hfin
          clear hfin HGO
          go_wp2_with (first
          | (refine wpList_load_mid rfl 27 (.tmp 12) rfl g (o + i * 66) rfl sc _ HCL.out Try.underlying27 rfl HSI.out ?_)
          | (refine RN.out.store (m := sc) rfl 27 (.tmp 6) (.tmp 13) rfl rfl rfl HSI.out (by rw [HL.out]; rfl) HSO.out ?_)
          | (rw [HW.out]; fail_if_success (rw [HW.out]))
          | (refine sum_load HP.out rfl (.tmp 19) rfl rfl HIP.out ?_)
          | (refine sum_load RA.out rfl (.tmp 3) rfl rfl HIR.out ?_))
          have hun := Try.underlying27
          have hi := HSI.out
          have hun2 := Try.underlying23
          refine wp_region_noPanic ?_
          refine wp_region_held_drew (S := (fun w' => Mine A w w' ∧ w'.there A 0 32 ∧ Row w' B 27 sc ∧ w'.rangeAt B 0 sc)) (by kernel_rfl) ?_ (fun hHeld => ?_)
          · exact ⟨⟨HM.out.le, HM.out.bel.drew⟩, (World.there_drew _ _ _ _).2 HTH.out, RW.out, (World.rangeAt_drew _ _ _ _).2 RW.out.range⟩
          refine wpAnyH_take (i := 0) (oi := { dst := some 25, op := Op.fieldAddr 27 (Operand.tmp 6) 0, type := 0, pos := "seal.go:61", after := #[], guard := none }) (v := ?v0_0) rfl (by kernel_rfl) (by kernel_rfl) (by kernel_rfl) (fun _ _ _ h => h) (Or.inl ⟨by rfl, ?y0_0⟩) (by assumption) ?r0_0
          case y0_0 => intro w hSw; (try dsimp only at hSw); go_simp; try with_reducible rfl
          try simp only [Act.put, List.setIfInBounds_toArray, List.set_cons_zero, List.set_cons_succ]
          refine wpAnyH_take (i := 1) (oi := { dst := some 26, op := Op.load 3 (Operand.tmp 25), type := 3, pos := "seal.go:61", after := #[{ on := 0, ground := Ground.data }], guard := none }) (v := ?v1_1) rfl (by kernel_rfl) (by kernel_rfl) (by kernel_rfl) (fun _ _ _ h => h) (Or.inl ⟨by rfl, ?y1_1⟩) (by assumption) ?r1_1
          case y1_1 => intro w hSw; (try dsimp only at hSw); have hcc := HC0.out _ hSw.2.2.1; go_simp; try with_reducible rfl
          try simp only [Act.put, List.setIfInBounds_toArray, List.set_cons_zero, List.set_cons_succ]
          refine wpAnyH_take (i := 2) (oi := { dst := some 27, op := Op.load 27 (Operand.tmp 6), type := 27, pos := "seal.go:61", after := #[], guard := none }) (v := _) rfl (by kernel_rfl) (by kernel_rfl) (by kernel_rfl) (fun _ _ _ h => h) (yieldsIf_load_mid (by rfl) _ _ rfl _ _ rfl _ _ (by intro w hSw; (try dsimp only at hSw); go_split_ands; assumption) (by assumption) rfl (by first | assumption | (simp only [*]; done))) (by assumption) ?_
          try simp only [Act.put, List.setIfInBounds_toArray, List.set_cons_zero, List.set_cons_succ]
          refine wpAnyH_ready (rs := [3]) (by kernel_rfl) (by simp) (AllReadyH.cons (o := { dst := some 28, op := Op.call { callee := Callee.value (Operand.func 16), args := #[Operand.tmp 27], argTypes := #[27] }, type := 23, pos := "seal.go:61", after := #[{ on := 2, ground := Ground.data }], guard := none }) rfl (fun K hK => ?_) AllReadyH.nil)
          go_simp
          refine (HSUM.out _).mono ?_; rintro e w2 ⟨rfl, hb⟩
          go_wp2_with fail
          refine hK.out _ _ ?_ (fun hHeld => ?_)
          · (try dsimp only); (go_split_ands; (repeat' apply And.intro) <;> first | assumption | exact Mine.call (by assumption) (by assumption) | exact Mine.alloc (by assumption) _ | exact Mine.setCells (by assumption) _ _ _ (by omega) | exact Mine.callN (by assumption) (by assumption) (by omega) | exact Row.belowN (by assumption) (by assumption) (by omega) | exact there_belowN (by assumption) (by assumption) (by omega) | exact rangeAt_below (by assumption) (by assumption) | exact World.rangeAt_alloc (by assumption) _ | exact World.rangeAt_setCells_apart (by assumption) _ _ _ (Or.inl (by omega)) | exact there_below (by assumption) (by assumption) | exact World.there_alloc (by assumption) _ | exact World.there_setCells (by assumption) _ _ _ | exact Row.belowS (by assumption) (by assumption) | exact Row.alloc (by assumption) _ | exact Row.setCells (by assumption) _ _ (by omega) | exact HS.below (by assumption) (by assumption) | exact HS.alloc (by assumption) _)
          clear hK K
          try simp only [Act.put, List.setIfInBounds_toArray, List.set_cons_zero, List.set_cons_succ]
          refine wpAnyH_take (i := 4) (oi := { dst := some 4, op := Op.assign (Operand.tmp 26), type := 3, pos := "seal.go:61", after := #[{ on := 1, ground := Ground.data }, { on := 3, ground := Ground.chain }, { on := 0, ground := Ground.phase }, { on := 1, ground := Ground.phase }, { on := 2, ground := Ground.textOnly Departure.lateStores }, { on := 3, ground := Ground.textOnly Departure.lateStoresUnsure }], guard := none }) (v := ?v4_2) rfl (by kernel_rfl) (by kernel_rfl) (by kernel_rfl) (fun _ _ _ h => h) (Or.inl ⟨by rfl, ?y4_2⟩) (by assumption) ?r4_2
          case y4_2 => intro w hSw; (try dsimp only at hSw); go_simp; try with_reducible rfl
          try simp only [Act.put, List.setIfInBounds_toArray, List.set_cons_zero, List.set_cons_succ]
          have hi := HIO.out; have hh1 := HO1.out; have hol := HLO.out
          have hPre := hHeld
          refine wpAnyH_ready (rs := [5]) (by kernel_rfl) (by simp) (AllReadyH.cons (o := { dst := none, op := Op.store 23 (Operand.tmp 3) (Operand.tmp 28), type := 0, pos := "seal.go:61", after := #[{ on := 3, ground := Ground.data }, { on := 4, ground := Ground.chain }, { on := 0, ground := Ground.phase }, { on := 1, ground := Ground.phase }, { on := 2, ground := Ground.phase }, { on := 3, ground := Ground.phase }, { on := 4, ground := Ground.phase }], guard := none }) rfl (fun K hK => ?_) AllReadyH.nil)
          rw [if_pos (by rfl)]
          refine wp_store_mid _ _ _ rfl _ _ (List.toArray _) rfl rfl (by go_split_ands; first | assumption | (simp only [List.size_toArray, *] <;> assumption)) (by first | assumption | (simp only [List.size_toArray] <;> assumption) | (simp only [List.size_toArray, *]; done)) (all_oneCell_toArray (by assumption)) ?_
          simp only [Act.put, List.setIfInBounds_toArray, List.set_cons_zero, List.set_cons_succ, List.toList_toArray]
          refine hK.out _ _ ?_ (fun hHeld => ?_)
          · (try dsimp only); (go_split_ands; (repeat' apply And.intro) <;> first | assumption | exact Mine.call (by assumption) (by assumption) | exact Mine.alloc (by assumption) _ | exact Mine.setCells (by assumption) _ _ _ (by omega) | exact Mine.callN (by assumption) (by assumption) (by omega) | exact Row.belowN (by assumption) (by assumption) (by omega) | exact there_belowN (by assumption) (by assumption) (by omega) | exact rangeAt_below (by assumption) (by assumption) | exact World.rangeAt_alloc (by assumption) _ | exact World.rangeAt_setCells_apart (by assumption) _ _ _ (Or.inl (by omega)) | exact there_below (by assumption) (by assumption) | exact World.there_alloc (by assumption) _ | exact World.there_setCells (by assumption) _ _ _ | exact Row.belowS (by assumption) (by assumption) | exact Row.alloc (by assumption) _ | exact Row.setCells (by assumption) _ _ (by omega) | exact HS.below (by assumption) (by assumption) | exact HS.alloc (by assumption) _)
          clear hK K
          refine wpAnyH_done (by kernel_rfl) ?_ _
          refine NoPanic.normal ?_
          have hr2 := World.rangeAt_setCells_same w2 A 0 (enc8 out) (by rw [HLO.out]; exact hPre.2.1)
          have HR2 := Lib.hid hr2
          have HT2 := Lib.hid hHeld.2.1
          have HM2 := Lib.hid hHeld.1
          clear hHeld hPre hi hh1 hol hb hun hun2 hr2
          go_wp2
          go_roundw
          case rel => exact ⟨i + 1, s, out, ⟨by go_num, by omega, rfl⟩, HOL.out, ⟨HR2.out, HT2.out⟩, HM2.out, HG.out⟩
          case measure => simp [intOf]; omega
        · have hfin := HGO.out
          rw [if_neg hle, if_pos (by simpa using hpp)] at hfin
          subst hfin
          have dpp : (p == prev) = false := by simpa using hpp
          simp only [dpp, Bool.not_false] at hneq
          go_wp2_with (first
          | (refine wpList_load_mid rfl 27 (.tmp 12) rfl g (o + i * 66) rfl sc _ HCL.out Try.underlying27 rfl HSI.out ?_)
          | (refine RN.out.store (m := sc) rfl 27 (.tmp 6) (.tmp 13) rfl rfl rfl HSI.out (by rw [HL.out]; rfl) HSO.out ?_)
          | (rw [HW.out]; fail_if_success (rw [HW.out]))
          | (refine sum_load HP.out rfl (.tmp 19) rfl rfl HIP.out ?_)
          | (refine sum_load RA.out rfl (.tmp 3) rfl rfl HIR.out ?_))
          go_ret
          exact ⟨rfl, by first | exact HM.out.bel | (rw [hA]; exact HM.out.bel)⟩
    · obtain rfl : i = n := by omega
      have hd : xs.drop i = [] := by rw [← HN.out]; exact List.drop_length
      rw [hd] at hgo
      have hgo' : i = N := hgo
      subst hgo'
      have HM := Lib.hid mm
      clear mm hgo ra rth hd
      go_wp2
      go_ret
      exact ⟨rfl, by rw [hA]; exact HM.out.bel⟩
set_option maxHeartbeats 4000000 in
set_option maxRecDepth 100000 in
/-- **the reference's Chain** -/
theorem qchain_any (v : Value) (xs : List Sl) (w : World) (hv : GS w v xs) :
    Calls Try.prog 19 #[v] w fun e w' => e = .returned (.int .i64 (chainN xs : Int)) ∧ Below w.heap.size w w' := by
  obtain ⟨C, cc, rfl, ⟨hc1, hc2⟩, -⟩ := hv.form
  obtain ⟨A, hA⟩ : ∃ A, w.heap.size = A := ⟨_, rfl⟩
  obtain ⟨W0, hW0, r0, -, hb0⟩ := filled w Z32
  have rn0 := Row.new w #[.int .u8 0, .int .u8 0, .int .u8 0, .int .u8 0, .int .u8 0, .int .u8 0, .int .u8 0, .int .u8 0, .int .u8 0, .int .u8 0, .int .u8 0, .int .u8 0, .int .u8 0, .int .u8 0, .int .u8 0, .int .u8 0, .int .u8 0, .int .u8 0, .int .u8 0, .int .u8 0, .int .u8 0, .int .u8 0, .int .u8 0, .int .u8 0, .int .u8 0, .int .u8 0, .int .u8 0, .int .u8 0, .int .u8 0, .int .u8 0, .int .u8 0, .int .u8 0] 23
  rw [hA] at hW0 r0
  rw [hA] at rn0 hb0
  have r0 : Row W0 A 23 (enc8 Z32b) := r0
  have m0 : Mine A w W0 := ⟨by have := hb0.size; omega, hb0⟩
  have HW0 := Lib.hid hW0
  have RN0 := Lib.hid rn0
  obtain ⟨n, hn⟩ : ∃ n, xs.length = n := ⟨_, rfl⟩
  obtain ⟨N, hN⟩ : ∃ N, chainN xs = N := ⟨_, rfl⟩
  have hN0 : chainGo (xs.drop 0) 0 0 Z32b = N := hN
  have HN0 := Lib.hid hN0
  have HV := Lib.hid hv
  have HN := Lib.hid hn
  have R0 := Lib.hid r0
  have M0 := Lib.hid m0
  have HZ := Lib.hid (show Z32b.length = 32 by decide)
  rw [hN]
  rw [hn] at HV hc1 ⊢
  clear hv hn r0 m0 hN hN0 hb0 rn0
  go_enter Try.func19, Try.ntmps19
  go_wp2_with (first | (refine RN0.out.store (m := Z32) rfl 23 (.tmp 4) (.tmp 7) rfl rfl rfl (by kernel_rfl) rfl (enc8_all _) ?_))
  clear hW0 HW0 RN0
  go_loopw [10, 3] (fun x y wr => ∃ i : Nat, ∃ seg : Int, ∃ prev : List UInt8, (x = .int .i64 (i : Int) ∧ i ≤ n ∧ y = .int .i64 seg) ∧ prev.length = 32 ∧ (wr.rangeAt A 0 (enc8 prev) ∧ wr.there A 0 32) ∧ Mine A w wr ∧ chainGo (xs.drop i) i seg prev = N) (fun x _ _ => n - (intOf x).toNat)
  case atStart => exact ⟨0, 0, Z32b, ⟨rfl, by omega, rfl⟩, HZ.out, ⟨R0.out.range, R0.out.there 32 rfl⟩, M0.out, HN0.out⟩
  case round =>
    clear R0 M0 HN0 HZ
    obtain ⟨i, seg, prev, ⟨rfl, hi, rfl⟩, hpl, ⟨ra, rth⟩, mm, hgo⟩ := hrel
    by_cases hlt : i < n
    · have hx : xs[i]? = some (xs[i]'(by rw [HN.out]; exact hlt)) := List.getElem?_eq_getElem _
      obtain ⟨⟨s, c, r, p⟩, hxe⟩ : ∃ x, xs[i]'(by rw [HN.out]; exact hlt) = x := ⟨_, rfl⟩
      rw [hxe] at hx
      rw [chainGo_step xs i _ hx] at hgo
      simp only at hgo
      obtain ⟨⟨hr, hp⟩, g, o, rfl, hcells⟩ := (HV.out.below (hA ▸ mm.bel)).at_ i _ hx
      simp only at hr hp
      have hsum := fun w => tsum_any s c r p hr hp w
      have hC0 : ∀ W, Row W (wr.heap.size) 27 (sealC s c r p) → W.cell? ⟨wr.heap.size, 0, none⟩ = some (.int .i64 s) := fun W h => by rw [h.cell 0]; rfl
      have hneq := fun w => run_neq_sum p prev hp hpl w
      obtain ⟨out, hout⟩ : ∃ out, sumL (sealB s c r p) = out := ⟨_, rfl⟩
      have hol : out.length = 32 := by rw [← hout]; exact sumL_length _
      rw [hout] at hgo
      simp only [hout] at hsum
      have hl := sealC_len s c r p hr hp
      have hsi := info66 _ hl
      have hso := all_oneCell_toArray (sealC_one s c r p)
      obtain ⟨sc, hsc⟩ : ∃ sc, sealC s c r p = sc := ⟨_, rfl⟩
      have hcells' : wr.rangeAt g (o + i * 66) sc := by rw [← hsc]; exact hcells
      simp only [hsc] at hsum hsi hso hl hC0
      obtain ⟨W, hW, rw1, hkeep, hbw⟩ := filledS wr #[.int .i64 0, .int .i64 0, .int .u8 0, .int .u8 0, .int .u8 0, .int .u8 0, .int .u8 0, .int .u8 0, .int .u8 0, .int .u8 0, .int .u8 0, .int .u8 0, .int .u8 0, .int .u8 0, .int .u8 0, .int .u8 0, .int .u8 0, .int .u8 0, .int .u8 0, .int .u8 0, .int .u8 0, .int .u8 0, .int .u8 0, .int .u8 0, .int .u8 0, .int .u8 0, .int .u8 0, .int .u8 0, .int .u8 0, .int .u8 0, .int .u8 0, .int .u8 0, .int .u8 0, .int .u8 0, .int .u8 0, .int .u8 0, .int .u8 0, .int .u8 0, .int .u8 0, .int .u8 0, .int .u8 0, .int .u8 0, .int .u8 0, .int .u8 0, .int .u8 0, .int .u8 0, .int .u8 0, .int .u8 0, .int .u8 0, .int .u8 0, .int .u8 0, .int .u8 0, .int .u8 0, .int .u8 0, .int .u8 0, .int .u8 0, .int .u8 0, .int .u8 0, .int .u8 0, .int .u8 0, .int .u8 0, .int .u8 0, .int .u8 0, .int .u8 0, .int .u8 0, .int .u8 0] sc
      have rn := Row.new wr #[.int .i64 0, .int .i64 0, .int .u8 0, .int .u8 0, .int .u8 0, .int .u8 0, .int .u8 0, .int .u8 0, .int .u8 0, .int .u8 0, .int .u8 0, .int .u8 0, .int .u8 0, .int .u8 0, .int .u8 0, .int .u8 0, .int .u8 0, .int .u8 0, .int .u8 0, .int .u8 0, .int .u8 0, .int .u8 0, .int .u8 0, .int .u8 0, .int .u8 0, .int .u8 0, .int .u8 0, .int .u8 0, .int .u8 0, .int .u8 0, .int .u8 0, .int .u8 0, .int .u8 0, .int .u8 0, .int .u8 0, .int .u8 0, .int .u8 0, .int .u8 0, .int .u8 0, .int .u8 0, .int .u8 0, .int .u8 0, .int .u8 0, .int .u8 0, .int .u8 0, .int .u8 0, .int .u8 0, .int .u8 0, .int .u8 0, .int .u8 0, .int .u8 0, .int .u8 0, .int .u8 0, .int .u8 0, .int .u8 0, .int .u8 0, .int .u8 0, .int .u8 0, .int .u8 0, .int .u8 0, .int .u8 0, .int .u8 0, .int .u8 0, .int .u8 0, .int .u8 0, .int .u8 0] 27
      obtain ⟨B, hB⟩ : ∃ B, wr.heap.size = B := ⟨_, rfl⟩
      rw [hB] at hW rw1
      simp only [hB] at hC0
      have rn' : Row (wr.alloc (.cells #[.int .i64 0, .int .i64 0, .int .u8 0, .int .u8 0, .int .u8 0, .int .u8 0, .int .u8 0, .int .u8 0, .int .u8 0, .int .u8 0, .int .u8 0, .int .u8 0, .int .u8 0, .int .u8 0, .int .u8 0, .int .u8 0, .int .u8 0, .int .u8 0, .int .u8 0, .int .u8 0, .int .u8 0, .int .u8 0, .int .u8 0, .int .u8 0, .int .u8 0, .int .u8 0, .int .u8 0, .int .u8 0, .int .u8 0, .int .u8 0, .int .u8 0, .int .u8 0, .int .u8 0, .int .u8 0, .int .u8 0, .int .u8 0, .int .u8 0, .int .u8 0, .int .u8 0, .int .u8 0, .int .u8 0, .int .u8 0, .int .u8 0, .int .u8 0, .int .u8 0, .int .u8 0, .int .u8 0, .int .u8 0, .int .u8 0, .int .u8 0, .int .u8 0, .int .u8 0, .int .u8 0, .int .u8 0, .int .u8 0, .int .u8 0, .int .u8 0, .int .u8 0, .int .u8 0, .int .u8 0, .int .u8 0, .int .u8 0, .int .u8 0, .int .u8 0, .int .u8 0, .int .u8 0] 27)) B 27 ZS := by rw [← hB]; exact rn
      have hAB : A < B := by rw [← hB]; exact World.block_lt_of_cell? wr _ (ra 0 (.int .u8 (gb prev 0)) (enc8_get prev 0 (by omega)))
      have ra1 := rangeAt_below ra hbw
      have c0 : W.cell? ⟨B, 0, none⟩ = some (.int .i64 s) := by rw [rw1.cell 0, ← hsc]; rfl
      have hp34 : W.rangeAt B 34 (enc8 p) := by
        intro j v hj
        rw [rw1.cell (34 + j), ← hsc]
        unfold sealC
        rw [show 34 + j = (32 + j) + 1 + 1 by omega, List.getElem?_cons_succ, List.getElem?_cons_succ, List.getElem?_append_right (by rw [enc8_len]; omega), enc8_len, hr, show 32 + j - 32 = j by omega, hj]
      have hip := info32 p hp
      have hipr := info32 prev hpl
      have hio := info32 out hol
      have ho1 := enc8_one out
      have hml := mm.call hbw
      have lo : (enc8 out).length = 32 := by rw [enc8_len, hol]
      have eo : enc8 out = enc8 out := rfl
      have hthA : W.there A 0 32 := there_below rth hbw
      obtain ⟨ap, hap⟩ : ∃ ap, enc8 p = ap := ⟨_, rfl⟩
      obtain ⟨apr, hapr⟩ : ∃ apr, enc8 prev = apr := ⟨_, rfl⟩
      rw [hap] at hneq hp34 hip
      rw [hapr] at hneq ra1 hipr
      have x5 : IntKind.i64.wrap ((i : Int) + 1) = (i : Int) + 1 := IntWalk.i64_in _ (by omega)
      have HCL := Lib.hid hcells'
      have HSI := Lib.hid hsi
      have HSO := Lib.hid hso
      have HL := Lib.hid hl
      have RN := Lib.hid rn'
      have HW := Lib.hid hW
      have RW := Lib.hid rw1
      have RA := Lib.hid ra1
      have HP := Lib.hid hp34
      have HIP := Lib.hid hip
      have HIR := Lib.hid hipr
      have HM := Lib.hid hml
      have HC0 := Lib.hid hC0
      have HGO := Lib.hid hgo
      have HSUM := Lib.hid hsum
      have HIO := Lib.hid hio
      have HO1 := Lib.hid ho1
      have HTH := Lib.hid hthA
      have HOL := Lib.hid hol
      have HLO := Lib.hid lo
      clear hC0 rth hcells' hcells hsi hso hl rn' rn hW rw1 ra1 hp34 hip hipr hml hgo hsum hio ho1 hthA hol hout hx hxe hr hp hsc ra mm hpl hkeep hbw lo eo hap hapr
      have kz := zeroSeal
      by_cases hle : s ≤ seg
      · have hfin := HGO.out
        rw [if_pos hle] at hfin
        subst hfin
        have d1 : decide (s ≤ seg) = true := by simpa using hle
        clear HSUM hneq
        go_wp2_with (first
          | (refine wpList_load_mid rfl 27 (.tmp 13) rfl g (o + i * 66) rfl sc _ HCL.out Try.underlying27 rfl HSI.out ?_)
          | (refine RN.out.store (m := sc) rfl 27 (.tmp 6) (.tmp 14) rfl rfl rfl HSI.out (by rw [HL.out]; rfl) HSO.out ?_)
          | (rw [HW.out]; fail_if_success (rw [HW.out])))
        go_ret
        exact ⟨rfl, by first | exact HM.out.bel | (rw [hA]; exact HM.out.bel)⟩
      · have d1 : decide (s ≤ seg) = false := by simpa using hle
        by_cases hpp : p = prev
        · have hfin := HGO.out
          rw [if_neg hle, if_neg (by simpa using hpp)] at hfin
          have dpp : (p == prev) = true := by simpa using hpp
          simp only [dpp, Bool.not_true] at hneq
          have HG := Lib.hid hfin
          clear hfin HGO
          go_wp2_with (first
          | (refine wpList_load_mid rfl 27 (.tmp 13) rfl g (o + i * 66) rfl sc _ HCL.out Try.underlying27 rfl HSI.out ?_)
          | (refine RN.out.store (m := sc) rfl 27 (.tmp 6) (.tmp 14) rfl rfl rfl HSI.out (by rw [HL.out]; rfl) HSO.out ?_)
          | (rw [HW.out]; fail_if_success (rw [HW.out]))
          | (refine sum_load HP.out rfl (.tmp 20) rfl rfl HIP.out ?_)
          | (refine sum_load RA.out rfl (.tmp 4) rfl rfl HIR.out ?_))
          have hun := Try.underlying27
          have hi := HSI.out
          have hun2 := Try.underlying23
          refine wp_region_noPanic ?_
          refine wp_region_held_drew (S := (fun w' => Mine A w w' ∧ w'.there A 0 32 ∧ Row w' B 27 sc ∧ w'.rangeAt B 0 sc)) (by kernel_rfl) ?_ (fun hHeld => ?_)
          · exact ⟨⟨HM.out.le, HM.out.bel.drew⟩, (World.there_drew _ _ _ _).2 HTH.out, RW.out, (World.rangeAt_drew _ _ _ _).2 RW.out.range⟩
          refine wpAnyH_take (i := 0) (oi := { dst := some 26, op := Op.fieldAddr 27 (Operand.tmp 6) 0, type := 0, pos := "ref.go:61", after := #[], guard := none }) (v := ?v0_3) rfl (by kernel_rfl) (by kernel_rfl) (by kernel_rfl) (fun _ _ _ h => h) (Or.inl ⟨by rfl, ?y0_3⟩) (by assumption) ?r0_3
          case y0_3 => intro w hSw; (try dsimp only at hSw); go_simp; try with_reducible rfl
          try simp only [Act.put, List.setIfInBounds_toArray, List.set_cons_zero, List.set_cons_succ]
          refine wpAnyH_take (i := 1) (oi := { dst := some 27, op := Op.load 3 (Operand.tmp 26), type := 3, pos := "ref.go:61", after := #[{ on := 0, ground := Ground.data }], guard := none }) (v := ?v1_4) rfl (by kernel_rfl) (by kernel_rfl) (by kernel_rfl) (fun _ _ _ h => h) (Or.inl ⟨by rfl, ?y1_4⟩) (by assumption) ?r1_4
          case y1_4 => intro w hSw; (try dsimp only at hSw); have hcc := HC0.out _ hSw.2.2.1; go_simp; try with_reducible rfl
          try simp only [Act.put, List.setIfInBounds_toArray, List.set_cons_zero, List.set_cons_succ]
          refine wpAnyH_take (i := 2) (oi := { dst := some 28, op := Op.load 27 (Operand.tmp 6), type := 27, pos := "ref.go:61", after := #[], guard := none }) (v := _) rfl (by kernel_rfl) (by kernel_rfl) (by kernel_rfl) (fun _ _ _ h => h) (yieldsIf_load_mid (by rfl) _ _ rfl _ _ rfl _ _ (by intro w hSw; (try dsimp only at hSw); go_split_ands; assumption) (by assumption) rfl (by first | assumption | (simp only [*]; done))) (by assumption) ?_
          try simp only [Act.put, List.setIfInBounds_toArray, List.set_cons_zero, List.set_cons_succ]
          refine wpAnyH_ready (rs := [3]) (by kernel_rfl) (by simp) (AllReadyH.cons (o := { dst := some 29, op := Op.call { callee := Callee.value (Operand.func 17), args := #[Operand.tmp 28], argTypes := #[27] }, type := 23, pos := "ref.go:61", after := #[{ on := 2, ground := Ground.data }], guard := none }) rfl (fun K hK => ?_) AllReadyH.nil)
          go_simp
          refine (HSUM.out _).mono ?_; rintro e w2 ⟨rfl, hb⟩
          go_wp2_with fail
          refine hK.out _ _ ?_ (fun hHeld => ?_)
          · (try dsimp only); (go_split_ands; (repeat' apply And.intro) <;> first | assumption | exact Mine.call (by assumption) (by assumption) | exact Mine.alloc (by assumption) _ | exact Mine.setCells (by assumption) _ _ _ (by omega) | exact Mine.callN (by assumption) (by assumption) (by omega) | exact Row.belowN (by assumption) (by assumption) (by omega) | exact there_belowN (by assumption) (by assumption) (by omega) | exact rangeAt_below (by assumption) (by assumption) | exact World.rangeAt_alloc (by assumption) _ | exact World.rangeAt_setCells_apart (by assumption) _ _ _ (Or.inl (by omega)) | exact there_below (by assumption) (by assumption) | exact World.there_alloc (by assumption) _ | exact World.there_setCells (by assumption) _ _ _ | exact Row.belowS (by assumption) (by assumption) | exact Row.alloc (by assumption) _ | exact Row.setCells (by assumption) _ _ (by omega) | exact HS.below (by assumption) (by assumption) | exact HS.alloc (by assumption) _)
          clear hK K
          try simp only [Act.put, List.setIfInBounds_toArray, List.set_cons_zero, List.set_cons_succ]
          refine wpAnyH_take (i := 4) (oi := { dst := some 3, op := Op.assign (Operand.tmp 27), type := 3, pos := "ref.go:61", after := #[{ on := 1, ground := Ground.data }, { on := 3, ground := Ground.chain }, { on := 0, ground := Ground.phase }, { on := 1, ground := Ground.phase }, { on := 2, ground := Ground.textOnly Departure.lateStores }, { on := 3, ground := Ground.textOnly Departure.lateStoresUnsure }], guard := none }) (v := ?v4_5) rfl (by kernel_rfl) (by kernel_rfl) (by kernel_rfl) (fun _ _ _ h => h) (Or.inl ⟨by rfl, ?y4_5⟩) (by assumption) ?r4_5
          case y4_5 => intro w hSw; (try dsimp only at hSw); go_simp; try with_reducible rfl
          try simp only [Act.put, List.setIfInBounds_toArray, List.set_cons_zero, List.set_cons_succ]
          have hi := HIO.out; have hh1 := HO1.out; have hol := HLO.out
          have hPre := hHeld
          refine wpAnyH_ready (rs := [5]) (by kernel_rfl) (by simp) (AllReadyH.cons (o := { dst := none, op := Op.store 23 (Operand.tmp 4) (Operand.tmp 29), type := 0, pos := "ref.go:61", after := #[{ on := 3, ground := Ground.data }, { on := 4, ground := Ground.chain }, { on := 0, ground := Ground.phase }, { on := 1, ground := Ground.phase }, { on := 2, ground := Ground.phase }, { on := 3, ground := Ground.phase }, { on := 4, ground := Ground.phase }], guard := none }) rfl (fun K hK => ?_) AllReadyH.nil)
          rw [if_pos (by rfl)]
          refine wp_store_mid _ _ _ rfl _ _ (List.toArray _) rfl rfl (by go_split_ands; first | assumption | (simp only [List.size_toArray, *] <;> assumption)) (by first | assumption | (simp only [List.size_toArray] <;> assumption) | (simp only [List.size_toArray, *]; done)) (all_oneCell_toArray (by assumption)) ?_
          simp only [Act.put, List.setIfInBounds_toArray, List.set_cons_zero, List.set_cons_succ, List.toList_toArray]
          refine hK.out _ _ ?_ (fun hHeld => ?_)
          · (try dsimp only); (go_split_ands; (repeat' apply And.intro) <;> first | assumption | exact Mine.call (by assumption) (by assumption) | exact Mine.alloc (by assumption) _ | exact Mine.setCells (by assumption) _ _ _ (by omega) | exact Mine.callN (by assumption) (by assumption) (by omega) | exact Row.belowN (by assumption) (by assumption) (by omega) | exact there_belowN (by assumption) (by assumption) (by omega) | exact rangeAt_below (by assumption) (by assumption) | exact World.rangeAt_alloc (by assumption) _ | exact World.rangeAt_setCells_apart (by assumption) _ _ _ (Or.inl (by omega)) | exact there_below (by assumption) (by assumption) | exact World.there_alloc (by assumption) _ | exact World.there_setCells (by assumption) _ _ _ | exact Row.belowS (by assumption) (by assumption) | exact Row.alloc (by assumption) _ | exact Row.setCells (by assumption) _ _ (by omega) | exact HS.below (by assumption) (by assumption) | exact HS.alloc (by assumption) _)
          clear hK K
          refine wpAnyH_done (by kernel_rfl) ?_ _
          refine NoPanic.normal ?_
          have hr2 := World.rangeAt_setCells_same w2 A 0 (enc8 out) (by rw [HLO.out]; exact hPre.2.1)
          have HR2 := Lib.hid hr2
          have HT2 := Lib.hid hHeld.2.1
          have HM2 := Lib.hid hHeld.1
          clear hHeld hPre hi hh1 hol hb hun hun2 hr2
          go_wp2
          go_roundw
          case rel => exact ⟨i + 1, s, out, ⟨by go_num, by omega, rfl⟩, HOL.out, ⟨HR2.out, HT2.out⟩, HM2.out, HG.out⟩
          case measure => simp [intOf]; omega
        · have hfin := HGO.out
          rw [if_neg hle, if_pos (by simpa using hpp)] at hfin
          subst hfin
          have dpp : (p == prev) = false := by simpa using hpp
          simp only [dpp, Bool.not_false] at hneq
          go_wp2_with (first
          | (refine wpList_load_mid rfl 27 (.tmp 13) rfl g (o + i * 66) rfl sc _ HCL.out Try.underlying27 rfl HSI.out ?_)
          | (refine RN.out.store (m := sc) rfl 27 (.tmp 6) (.tmp 14) rfl rfl rfl HSI.out (by rw [HL.out]; rfl) HSO.out ?_)
          | (rw [HW.out]; fail_if_success (rw [HW.out]))
          | (refine sum_load HP.out rfl (.tmp 20) rfl rfl HIP.out ?_)
          | (refine sum_load RA.out rfl (.tmp 4) rfl rfl HIR.out ?_))
          go_ret
          exact ⟨rfl, by first | exact HM.out.bel | (rw [hA]; exact HM.out.bel)⟩
    · obtain rfl : i = n := by omega
      have hd : xs.drop i = [] := by rw [← HN.out]; exact List.drop_length
      rw [hd] at hgo
      have hgo' : i = N := hgo
      subst hgo'
      have HM := Lib.hid mm
      clear mm hgo ra rth hd
      go_wp2
      go_ret
      exact ⟨rfl, by rw [hA]; exact HM.out.bel⟩
end Go.Proofs.Ytnepmhdnkcnnmaa

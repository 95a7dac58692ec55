/- The reference's Verify; MerkleVerifies. -/
import Derived.RangeFuncNested
import Derived.RangeFuncBound
import Derived.RangeFuncCalls
import Derived.RangeFuncLeaves
import Derived.Shelf.Abstract
import Derived.Shelf.RegionOpen
import Derived.WalkKit
import Derived.OwnWalkIn
import Derived.TacticsInMore
import Derived.LoopNIn
import Derived.LoopIn
import Derived.Outline
import Derived.Lib.Hide
import Derived.Lib.SliceRun
import Derived.IntWalk
import Derived.WalkLawsBesides
import Derived.WalkSpells
import Derived.Laws.BitsAllLaws
import Derived.Lib.ConvBytes
import Derived.Maps.AppendAt
import Derived.Lib.AppendStr
import Derived.Lib.SlBytesConst
import Derived.Laws.AppendOwnNone
import Derived.Laws.OwnMore
import Derived.Laws.BytesArg
import Derived.Deep.RegionHeld3
import Derived.BigQuiet
import Derived.Deep.RegionLaw
import Derived.Deep.QuietTactic
import Derived.Lib.OthersKept
import Derived.Test.YtkipnhhdlohnfaaProg
import Derived.Deep.DeepFit
import Derived.Test.YtkipnhhdlohnfaaMkP
set_option linter.unusedVariables false
set_option linter.unusedSimpArgs false
namespace Go.Proofs.Ytkipnhhdlohnfaa
open Go Go.RowKit Go.Shelf

set_option maxHeartbeats 4000000 in
set_option maxRecDepth 100000 in
theorem qverify_in (root leaf : List UInt8) (n i : Nat) (pv : Value) (ps : List (List UInt8)) (w : World) (hr : root.length = 32) (hl : leaf.length = 32) (hv : HS w pv ps) (hi : i < n) (hn : n ≤ 9223372036854775807) (hmax : ps.length ≤ 64) (b : Bool) (hb : (decide ((turnsL n i).length = ps.length)) = b) (res : Bool) (hres : res = if b = true then clb (turnsL n i).reverse ps leaf ps.length == root else false) :
    Calls Try.prog 36 #[.agg (enc8 root).toArray, .int .i64 (n : Int), .int .i64 (i : Int), .agg (enc8 leaf).toArray, pv] w fun e w' => e = .returned (.bool res) ∧ Below w.heap.size w w' := by
  obtain ⟨C, c, rfl, hc, -⟩ := hv.form
  obtain ⟨W, A, hW, hA, hsz, r0, r1, hm⟩ := two_boxed w (enc8 root) (enc8 leaf)
  have hup := up_any ps.length n i leaf _ ps W (Nat.le_refl _) hl (hv.below (by rw [hA]; exact hm.bel)) hn hi
  unfold UpSays at hup
  rw [hb] at hup
  have hbt : b = true → (turnsL n i).length = ps.length := fun h => by rw [h] at hb; simpa using hb
  obtain ⟨L, hL⟩ : ∃ L, ps.length = L := ⟨_, rfl⟩
  have i0 := info32 root hr
  have i1 := info32 leaf hl
  obtain ⟨ar, har⟩ : ∃ ar, enc8 root = ar := ⟨_, rfl⟩
  obtain ⟨al, hal⟩ : ∃ al, enc8 leaf = al := ⟨_, rfl⟩
  rw [har] at hW r0 i0
  rw [hal] at hW r1 i1 hup
  rw [har, hal]
  rw [hL] at hmax ⊢
  rw [hL] at hup hbt hres
  have HUP := Lib.hid hup
  have HBT := Lib.hid hbt
  have HRES := Lib.hid hres
  have HROOT := Lib.hid hr
  have HAR := Lib.hid har
  have HM := Lib.hid hm
  have HW := Lib.hid hW
  have R0 := Lib.hid r0
  have R1 := Lib.hid r1
  have I0 := Lib.hid i0
  have I1 := Lib.hid i1
  clear hv hup hbt hres hr hm hW r0 r1 i0 i1 har hal hL hb hl hsz hc
  have g1 : decide ((i : Int) < 0) = false := by simp
  have g2 : decide ((n : Int) ≤ (i : Int)) = false := by simp; omega
  have g3 : decide (n ≤ i) = false := by simp; omega
  have g4 : decide ((64 : Int) < (L : Int)) = false := by simp; omega
  have g5 : decide (64 < L) = false := by simp; omega
  go_enter Try.func36, Try.ntmps36
  go_wp2_with (first
    | (rw [HW.out]; refine R1.out.load rfl 24 (.tmp 8) rfl rfl _ _ Try.underlying24 I1.out ?_))
  refine HUP.out.mono ?_
  rintro e w1 ⟨x, rfl, hx32, hx, hb1⟩
  obtain ⟨W3, hW3, q11, hkeep, hb3⟩ := filled w1 (enc8 x)
  have ra3 := hkeep _ _ _ (R0.out.belowS hb1)
  have m3 := (HM.out.call hb1).call hb3
  have ix := info32 x hx32
  have lx : (enc8 x).length = 32 := by rw [enc8_len, hx32]
  have fx := enc8_all x
  have heq := fun w => run_eql_sum x root hx32 HROOT.out w
  rw [HAR.out] at heq
  have RN := Lib.hid (Row.new w1 #[.int .u8 0, .int .u8 0, .int .u8 0, .int .u8 0, .int .u8 0, .int .u8 0, .int .u8 0, .int .u8 0, .int .u8 0, .int .u8 0, .int .u8 0, .int .u8 0, .int .u8 0, .int .u8 0, .int .u8 0, .int .u8 0, .int .u8 0, .int .u8 0, .int .u8 0, .int .u8 0, .int .u8 0, .int .u8 0, .int .u8 0, .int .u8 0, .int .u8 0, .int .u8 0, .int .u8 0, .int .u8 0, .int .u8 0, .int .u8 0, .int .u8 0, .int .u8 0] 24)
  have hrr := HRES.out
  obtain ⟨ax, hax⟩ : ∃ ax, enc8 x = ax := ⟨_, rfl⟩
  rw [hax] at hW3 q11 ix lx fx heq ⊢
  have HW3 := Lib.hid hW3
  have RX := Lib.hid q11
  have RA := Lib.hid ra3
  have M3 := Lib.hid m3
  have IX := Lib.hid ix
  have LX := Lib.hid lx
  have FX := Lib.hid fx
  cases b with
  | true =>
    rw [if_pos rfl, ← hx (HBT.out rfl)] at hrr
    rw [← hrr] at heq
    clear hb1 hW3 q11 hkeep hb3 ra3 m3 ix lx fx hx hx32 hrr hax HRES HBT HUP HM R0 R1
    go_wp2_with (first
      | (refine RN.out.store (m := ax) rfl 24 (.tmp 11) (.tmp 31) rfl rfl rfl IX.out (by rw [LX.out]; rfl) FX.out ?_)
      | (rw [HW3.out]; refine RX.out.loadg rfl 24 (.tmp 11) rfl rfl _ _ Try.underlying24 IX.out ?_)
      | (refine RA.out.loadg rfl 24 (.tmp 5) rfl rfl _ _ Try.underlying24 I0.out ?_))
    go_ret
    exact ⟨rfl, by rw [hA]; exact M3.out.bel⟩
  | false =>
    rw [if_neg (by decide)] at hrr
    subst hrr
    clear hb1 hkeep hb3 ra3 m3 ix lx fx hx hx32 hax heq HRES HBT HUP HM R0 R1 q11
    go_wp2_with (first
      | (refine RN.out.store (m := ax) rfl 24 (.tmp 11) (.tmp 31) rfl rfl rfl IX.out (by rw [LX.out]; rfl) FX.out ?_))
    go_ret
    exact ⟨rfl, by rw [hA]; exact M3.out.bel⟩
set_option maxHeartbeats 2000000 in
set_option maxRecDepth 100000 in
theorem qverify_out (root leaf : List UInt8) (n i : Int) (pv : Value) (w : World) (hi : ¬ (0 ≤ i ∧ i < n)) :
    Calls Try.prog 36 #[.agg (enc8 root).toArray, .int .i64 n, .int .i64 i, .agg (enc8 leaf).toArray, pv] w fun e w' => e = .returned (.bool false) ∧ Below w.heap.size w w' := by
  obtain ⟨W, A, hW, hA, hsz, r0, r1, hm⟩ := two_boxed w (enc8 root) (enc8 leaf)
  obtain ⟨ar, har⟩ : ∃ ar, enc8 root = ar := ⟨_, rfl⟩
  obtain ⟨al, hal⟩ : ∃ al, enc8 leaf = al := ⟨_, rfl⟩
  rw [har, hal] at hW ⊢
  have HB : Hid (Below w.heap.size w ((w.alloc (.cells ar.toArray 24)).alloc (.cells al.toArray 24))) := by unfold Hid; rw [hW, hA]; exact hm.bel
  clear hW hA hsz r0 r1 hm har hal
  by_cases h0 : 0 ≤ i
  · have h1 : n ≤ i := by omega
    clear hi
    go_enter Try.func36, Try.ntmps36
    go_wp2
    go_ret
    exact ⟨rfl, HB.out⟩
  · clear hi
    go_enter Try.func36, Try.ntmps36
    go_wp2
    go_ret
    exact ⟨rfl, HB.out⟩
/-- **the reference's Verify** -/
theorem qverify_any (root leaf : List UInt8) (n i : Int) (pv : Value) (ps : List (List UInt8)) (w : World) (hr : root.length = 32) (hl : leaf.length = 32) (hv : HS w pv ps) (hn : n ≤ 9223372036854775807) (hmax : ps.length ≤ 64) :
    Calls Try.prog 36 #[.agg (enc8 root).toArray, .int .i64 n, .int .i64 i, .agg (enc8 leaf).toArray, pv] w fun e w' => e = .returned (.bool (verB root n i leaf ps)) ∧ Below w.heap.size w w' := by
  by_cases h : 0 ≤ i ∧ i < n
  · obtain ⟨j, rfl⟩ : ∃ j : Nat, i = j := ⟨i.toNat, by omega⟩
    obtain ⟨p, rfl⟩ : ∃ p : Nat, n = p := ⟨n.toNat, by omega⟩
    refine qverify_in root leaf p j pv ps w hr hl hv (by omega) (by omega) hmax _ rfl _ ?_
    unfold verB
    simp only [Int.toNat_natCast]
    by_cases hlen : (turnsL p j).length = ps.length
    · rw [if_pos ⟨h.1, h.2, hlen⟩, if_pos (by simpa using hlen)]
    · rw [if_neg (fun hh => hlen hh.2.2), if_neg (by simpa using hlen)]
  · have : verB root n i leaf ps = false := by unfold verB; rw [if_neg (fun hh => h ⟨hh.1, hh.2.1⟩)]
    rw [this]
    exact qverify_out root leaf n i pv w h

set_option maxHeartbeats 4000000 in
set_option maxRecDepth 100000 in
theorem merkleVerifies_walk (v : Value) (root : List UInt8) (n i : Int) (u : Value) (leaf : List UInt8) (pv : Value) (ps : List (List UInt8)) (w : World) (hv : v = .agg (enc8 root).toArray ∧ root.length = 32) (hn : (Lit.int .i64 n).wf = true) (hi : (Lit.int .i64 i).wf = true) (hu : u = .agg (enc8 leaf).toArray ∧ leaf.length = 32) (hp : HS w pv ps) :
    Calls Try.prog 10 #[v, .int .i64 n, .int .i64 i, u, pv] w fun e w' => e = .returned (.bool true) ∧ Below w.heap.size w w' := by
  obtain ⟨rfl, hr⟩ := hv
  obtain ⟨rfl, hl⟩ := hu
  have hnb := (bounds_i64 hn).2
  obtain ⟨W, A, hW, hA, hsz, r0, r1, hm⟩ := two_boxed w (enc8 root) (enc8 leaf)
  have hf := fun w' hb => few_any _ ps w' (hp.below (W' := w') hb)
  have i0 := info32 root hr
  have i1 := info32 leaf hl
  by_cases kl : ps.length ≤ 20
  · rw [show decide (ps.length ≤ 20) = true by simp; omega] at hf
    have h1 := fun w' hb => verify_any root leaf n i _ ps w' hr hl (hp.below (W' := w') hb) (by omega)
    have h2 := fun w' hb => qverify_any root leaf n i _ ps w' hr hl (hp.below (W' := w') hb) (by omega) (by omega)
    obtain ⟨res, hres⟩ : ∃ res, verB root n i leaf ps = res := ⟨_, rfl⟩
    simp only [hres] at h1 h2
    obtain ⟨ar, har⟩ : ∃ ar, enc8 root = ar := ⟨_, rfl⟩
    obtain ⟨al, hal⟩ : ∃ al, enc8 leaf = al := ⟨_, rfl⟩
    rw [har] at hW r0 i0
    rw [hal] at hW r1 i1
    simp only [har, hal] at h1 h2
    rw [har, hal]
    have HF := Lib.hid hf
    have H1 := Lib.hid h1
    have H2 := Lib.hid h2
    have HM := Lib.hid hm
    have HW := Lib.hid hW
    have R0 := Lib.hid r0
    have R1 := Lib.hid r1
    clear hf h1 h2 hm hW r0 r1 har hal hres hp hn hi hnb hr hl
    have hu := Try.underlying24
    go_enter Try.func10, Try.ntmps10
    go_wp2_with fail
    rw [HW.out]
    refine (awake05_any _).mono ?_
    rintro e w1 ⟨rfl, hb1⟩
    have m1 := HM.out.call hb1
    have p0 := (R0.out.belowS hb1).range
    have p1 := (R1.out.belowS hb1).range
    clear hb1 HM HW R0 R1
    go_wp2_with fail
    refine (HF.out _ (by rw [hA]; exact m1.bel)).mono ?_
    rintro e w2 ⟨rfl, rfl⟩
    go_wp2_with fail
    refine wp_region_noPanic ?_
    refine wp_region_held_drew (S := (fun w' => Mine A w w' ∧ w'.rangeAt A 0 ar ∧ w'.rangeAt (A + 1) 0 al)) (by kernel_rfl) ?_ (fun hHeld => ?_)
    · exact ⟨⟨m1.le, m1.bel.drew⟩, (World.rangeAt_drew _ _ _ _).2 p0, (World.rangeAt_drew _ _ _ _).2 p1⟩
    refine wpAnyH_take (i := 0) (oi := { dst := some 16, op := Op.load 24 (Operand.tmp 5), type := 24, pos := "law.go:68", after := #[], guard := none }) (v := _) rfl (by kernel_rfl) (by kernel_rfl) (by kernel_rfl) (fun _ _ _ h => h) (yieldsIf_load_mid (by rfl) _ _ rfl _ _ rfl _ _ (by intro w hSw; (try dsimp only at hSw); go_split_ands; assumption) (by assumption) rfl (by first | assumption | (simp only [*]; done))) (by assumption) ?_
    try simp only [Act.put, List.setIfInBounds_toArray, List.set_cons_zero, List.set_cons_succ]
    refine wpAnyH_take (i := 1) (oi := { dst := some 17, op := Op.move (Operand.tmp 1), type := 3, pos := "law.go:68", after := #[], guard := none }) (v := ?v1_0) rfl (by kernel_rfl) (by kernel_rfl) (by kernel_rfl) (fun _ _ _ h => h) (Or.inl ⟨by rfl, ?y1_0⟩) (by assumption) ?r1_0
    case y1_0 => intro w hSw; (try dsimp only at hSw); go_simp; try with_reducible rfl
    try simp only [Act.put, List.setIfInBounds_toArray, List.set_cons_zero, List.set_cons_succ]
    refine wpAnyH_take (i := 2) (oi := { dst := some 18, op := Op.move (Operand.tmp 2), type := 3, pos := "law.go:68", after := #[], guard := none }) (v := ?v2_1) rfl (by kernel_rfl) (by kernel_rfl) (by kernel_rfl) (fun _ _ _ h => h) (Or.inl ⟨by rfl, ?y2_1⟩) (by assumption) ?r2_1
    case y2_1 => intro w hSw; (try dsimp only at hSw); go_simp; try with_reducible rfl
    try simp only [Act.put, List.setIfInBounds_toArray, List.set_cons_zero, List.set_cons_succ]
    refine wpAnyH_take (i := 3) (oi := { dst := some 19, op := Op.load 24 (Operand.tmp 8), type := 24, pos := "law.go:68", after := #[], guard := none }) (v := _) rfl (by kernel_rfl) (by kernel_rfl) (by kernel_rfl) (fun _ _ _ h => h) (yieldsIf_load_mid (by rfl) _ _ rfl _ _ rfl _ _ (by intro w hSw; (try dsimp only at hSw); go_split_ands; assumption) (by assumption) rfl (by first | assumption | (simp only [*]; done))) (by assumption) ?_
    try simp only [Act.put, List.setIfInBounds_toArray, List.set_cons_zero, List.set_cons_succ]
    refine wpAnyH_take (i := 4) (oi := { dst := some 20, op := Op.move (Operand.tmp 4), type := 29, pos := "law.go:68", after := #[], guard := none }) (v := ?v4_2) rfl (by kernel_rfl) (by kernel_rfl) (by kernel_rfl) (fun _ _ _ h => h) (Or.inl ⟨by rfl, ?y4_2⟩) (by assumption) ?r4_2
    case y4_2 => intro w hSw; (try dsimp only at hSw); go_simp; try with_reducible rfl
    try simp only [Act.put, List.setIfInBounds_toArray, List.set_cons_zero, List.set_cons_succ]
    refine wpAnyH_take (i := 6) (oi := { dst := some 22, op := Op.load 24 (Operand.tmp 5), type := 24, pos := "law.go:68", after := #[], guard := none }) (v := _) rfl (by kernel_rfl) (by kernel_rfl) (by kernel_rfl) (fun _ _ _ h => h) (yieldsIf_load_mid (by rfl) _ _ rfl _ _ rfl _ _ (by intro w hSw; (try dsimp only at hSw); go_split_ands; assumption) (by assumption) rfl (by first | assumption | (simp only [*]; done))) (by assumption) ?_
    try simp only [Act.put, List.setIfInBounds_toArray, List.set_cons_zero, List.set_cons_succ]
    refine wpAnyH_take (i := 7) (oi := { dst := some 23, op := Op.move (Operand.tmp 1), type := 3, pos := "law.go:68", after := #[], guard := none }) (v := ?v7_3) rfl (by kernel_rfl) (by kernel_rfl) (by kernel_rfl) (fun _ _ _ h => h) (Or.inl ⟨by rfl, ?y7_3⟩) (by assumption) ?r7_3
    case y7_3 => intro w hSw; (try dsimp only at hSw); go_simp; try with_reducible rfl
    try simp only [Act.put, List.setIfInBounds_toArray, List.set_cons_zero, List.set_cons_succ]
    refine wpAnyH_take (i := 8) (oi := { dst := some 24, op := Op.move (Operand.tmp 2), type := 3, pos := "law.go:68", after := #[], guard := none }) (v := ?v8_4) rfl (by kernel_rfl) (by kernel_rfl) (by kernel_rfl) (fun _ _ _ h => h) (Or.inl ⟨by rfl, ?y8_4⟩) (by assumption) ?r8_4
    case y8_4 => intro w hSw; (try dsimp only at hSw); go_simp; try with_reducible rfl
    try simp only [Act.put, List.setIfInBounds_toArray, List.set_cons_zero, List.set_cons_succ]
    refine wpAnyH_take (i := 9) (oi := { dst := some 25, op := Op.load 24 (Operand.tmp 8), type := 24, pos := "law.go:68", after := #[], guard := none }) (v := _) rfl (by kernel_rfl) (by kernel_rfl) (by kernel_rfl) (fun _ _ _ h => h) (yieldsIf_load_mid (by rfl) _ _ rfl _ _ rfl _ _ (by intro w hSw; (try dsimp only at hSw); go_split_ands; assumption) (by assumption) rfl (by first | assumption | (simp only [*]; done))) (by assumption) ?_
    try simp only [Act.put, List.setIfInBounds_toArray, List.set_cons_zero, List.set_cons_succ]
    refine wpAnyH_take (i := 10) (oi := { dst := some 26, op := Op.move (Operand.tmp 4), type := 29, pos := "law.go:68", after := #[], guard := none }) (v := ?v10_5) rfl (by kernel_rfl) (by kernel_rfl) (by kernel_rfl) (fun _ _ _ h => h) (Or.inl ⟨by rfl, ?y10_5⟩) (by assumption) ?r10_5
    case y10_5 => intro w hSw; (try dsimp only at hSw); go_simp; try with_reducible rfl
    try simp only [Act.put, List.setIfInBounds_toArray, List.set_cons_zero, List.set_cons_succ]
    refine wpAnyH_ready (rs := [5]) (by kernel_rfl) (by simp) (AllReadyH.cons (o := { dst := some 21, op := Op.call { callee := Callee.value (Operand.func 35), args := #[Operand.tmp 16, Operand.tmp 17, Operand.tmp 18, Operand.tmp 19, Operand.tmp 20], argTypes := #[24, 3, 3, 24, 29] }, type := 4, pos := "law.go:68", after := #[{ on := 0, ground := Ground.data }, { on := 1, ground := Ground.data }, { on := 2, ground := Ground.data }, { on := 3, ground := Ground.data }, { on := 4, ground := Ground.data }], guard := none }) rfl (fun K hK => ?_) AllReadyH.nil)
    go_simp
    refine (H1.out _ (by rw [hA]; exact hHeld.1.bel)).mono ?_; rintro e w3 ⟨rfl, hb3⟩
    go_wp2_with fail
    refine hK.out _ _ ?_ (fun hHeld => ?_)
    · (try dsimp only); (go_split_ands; (repeat' apply And.intro) <;> first | assumption | exact Mine.call (by assumption) (by assumption) | exact Mine.alloc (by assumption) _ | exact Mine.setCells (by assumption) _ _ _ (by omega) | exact Mine.callN (by assumption) (by assumption) (by omega) | exact Row.belowN (by assumption) (by assumption) (by omega) | exact there_belowN (by assumption) (by assumption) (by omega) | exact rangeAt_below (by assumption) (by assumption) | exact World.rangeAt_alloc (by assumption) _ | exact World.rangeAt_setCells_apart (by assumption) _ _ _ (Or.inl (by omega)) | exact there_below (by assumption) (by assumption) | exact World.there_alloc (by assumption) _ | exact World.there_setCells (by assumption) _ _ _ | exact Row.belowS (by assumption) (by assumption) | exact Row.alloc (by assumption) _ | exact Row.setCells (by assumption) _ _ (by omega) | exact HS.below (by assumption) (by assumption) | exact HS.alloc (by assumption) _)
    clear hK K
    try simp only [Act.put, List.setIfInBounds_toArray, List.set_cons_zero, List.set_cons_succ]
    refine wpAnyH_ready (rs := [11]) (by kernel_rfl) (by simp) (AllReadyH.cons (o := { dst := some 27, op := Op.call { callee := Callee.value (Operand.func 36), args := #[Operand.tmp 22, Operand.tmp 23, Operand.tmp 24, Operand.tmp 25, Operand.tmp 26], argTypes := #[24, 3, 3, 24, 29] }, type := 4, pos := "law.go:68", after := #[{ on := 6, ground := Ground.data }, { on := 7, ground := Ground.data }, { on := 8, ground := Ground.data }, { on := 9, ground := Ground.data }, { on := 10, ground := Ground.data }, { on := 5, ground := Ground.chain }], guard := none }) rfl (fun K hK => ?_) AllReadyH.nil)
    go_simp
    refine (H2.out _ (by rw [hA]; exact hHeld.1.bel)).mono ?_; rintro e w4 ⟨rfl, hb4⟩
    go_wp2_with fail
    refine hK.out _ _ ?_ (fun hHeld => ?_)
    · (try dsimp only); (go_split_ands; (repeat' apply And.intro) <;> first | assumption | exact Mine.call (by assumption) (by assumption) | exact Mine.alloc (by assumption) _ | exact Mine.setCells (by assumption) _ _ _ (by omega) | exact Mine.callN (by assumption) (by assumption) (by omega) | exact Row.belowN (by assumption) (by assumption) (by omega) | exact there_belowN (by assumption) (by assumption) (by omega) | exact rangeAt_below (by assumption) (by assumption) | exact World.rangeAt_alloc (by assumption) _ | exact World.rangeAt_setCells_apart (by assumption) _ _ _ (Or.inl (by omega)) | exact there_below (by assumption) (by assumption) | exact World.there_alloc (by assumption) _ | exact World.there_setCells (by assumption) _ _ _ | exact Row.belowS (by assumption) (by assumption) | exact Row.alloc (by assumption) _ | exact Row.setCells (by assumption) _ _ (by omega) | exact HS.below (by assumption) (by assumption) | exact HS.alloc (by assumption) _)
    clear hK K
    try simp only [Act.put, List.setIfInBounds_toArray, List.set_cons_zero, List.set_cons_succ]
    refine wpAnyH_take (i := 12) (oi := { dst := some 28, op := Op.binOp BinOp.eql 4 (Operand.tmp 21) (Operand.tmp 27) 4, type := 4, pos := "law.go:68", after := #[{ on := 5, ground := Ground.data }, { on := 11, ground := Ground.data }], guard := none }) (v := ?v12_6) rfl (by kernel_rfl) (by kernel_rfl) (by kernel_rfl) (fun _ _ _ h => h) (Or.inl ⟨by rfl, ?y12_6⟩) (by assumption) ?r12_6
    case y12_6 => intro w hSw; (try dsimp only at hSw); go_simp; try with_reducible rfl
    try simp only [Act.put, List.setIfInBounds_toArray, List.set_cons_zero, List.set_cons_succ]
    refine wpAnyH_take (i := 13) (oi := { dst := some 10, op := Op.assign (Operand.tmp 28), type := 4, pos := "law.go:68", after := #[{ on := 12, ground := Ground.data }, { on := 11, ground := Ground.chain }, { on := 0, ground := Ground.phase }, { on := 1, ground := Ground.phase }, { on := 2, ground := Ground.phase }, { on := 3, ground := Ground.phase }, { on := 4, ground := Ground.phase }, { on := 5, ground := Ground.phase }, { on := 6, ground := Ground.phase }, { on := 7, ground := Ground.phase }, { on := 8, ground := Ground.phase }, { on := 9, ground := Ground.phase }, { on := 10, ground := Ground.phase }, { on := 11, ground := Ground.phase }, { on := 12, ground := Ground.phase }], guard := none }) (v := ?v13_7) rfl (by kernel_rfl) (by kernel_rfl) (by kernel_rfl) (fun _ _ _ h => h) (Or.inl ⟨by rfl, ?y13_7⟩) (by assumption) ?r13_7
    case y13_7 => intro w hSw; (try dsimp only at hSw); go_simp; try with_reducible rfl
    try simp only [Act.put, List.setIfInBounds_toArray, List.set_cons_zero, List.set_cons_succ]
    refine wpAnyH_done (by kernel_rfl) ?_ _
    refine NoPanic.normal ?_
    have hfin := Lib.hid hHeld.1.bel
    clear hHeld m1 p0 p1 hu i0 i1
    go_wp2
    go_ret
    exact ⟨rfl, by rw [hA]; exact hfin.out⟩
  · rw [show decide (ps.length ≤ 20) = false by simp; omega] at hf
    obtain ⟨ar, har⟩ : ∃ ar, enc8 root = ar := ⟨_, rfl⟩
    obtain ⟨al, hal⟩ : ∃ al, enc8 leaf = al := ⟨_, rfl⟩
    rw [har, hal] at hW ⊢
    have HF := Lib.hid hf
    have HM := Lib.hid hm
    have HW := Lib.hid hW
    clear hf hm hW r0 r1 har hal hp hn hi hnb hr hl i0 i1
    go_enter Try.func10, Try.ntmps10
    go_wp2_with fail
    rw [HW.out]
    refine (awake05_any _).mono ?_
    rintro e w1 ⟨rfl, hb1⟩
    have M1 := Lib.hid (HM.out.call hb1)
    clear hb1 HM HW
    go_wp2_with fail
    refine (HF.out _ (by rw [hA]; exact M1.out.bel)).mono ?_
    rintro e w2 ⟨rfl, rfl⟩
    go_wp2
    go_ret
    exact ⟨rfl, by rw [hA]; exact M1.out.bel⟩
end Go.Proofs.Ytkipnhhdlohnfaa

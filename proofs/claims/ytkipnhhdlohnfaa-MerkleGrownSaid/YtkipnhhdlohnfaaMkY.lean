/- The reference's both: a step to the left. -/
import Derived.RangeFuncNested
import Derived.RangeFuncBound
import Derived.RangeFuncCalls
import Derived.RangeFuncLeaves
import Derived.Shelf.Abstract
import Derived.Shelf.RegionOpen
import Derived.WalkKit
import Derived.OwnWalkIn
import Derived.TacticsInMore
import Derived.LoopNIn
import Derived.LoopIn
import Derived.Outline
import Derived.Lib.Hide
import Derived.Lib.SliceRun
import Derived.IntWalk
import Derived.WalkLawsBesides
import Derived.WalkSpells
import Derived.Laws.BitsAllLaws
import Derived.Lib.ConvBytes
import Derived.Maps.AppendAt
import Derived.Lib.AppendStr
import Derived.Lib.SlBytesConst
import Derived.Laws.AppendOwnNone
import Derived.Laws.OwnMore
import Derived.Laws.BytesArg
import Derived.Deep.RegionHeld3
import Derived.BigQuiet
import Derived.Deep.RegionLaw
import Derived.Deep.QuietTactic
import Derived.Lib.OthersKept
import Derived.Test.YtkipnhhdlohnfaaProg
import Derived.Deep.DeepFit
import Derived.Test.YtkipnhhdlohnfaaMkX
set_option linter.unusedVariables false
set_option linter.unusedSimpArgs false
namespace Go.Proofs.Ytkipnhhdlohnfaa
open Go Go.RowKit Go.Shelf

set_option maxHeartbeats 16000000 in
set_option maxRecDepth 100000 in
theorem both_left (n m : Nat) (wh : Bool) (old : List UInt8) (pv : Value) (ps : List (List UInt8)) (l : Nat) (w : World) (hl : old.length = 32) (hv : HS w pv ps) (hn : n ≤ 9223372036854775807) (h1 : 1 ≤ m ∧ m < n) (hik :  m ≤ hlf n) (hm : ps.length = l + 1)
    (IH : ∀ (n' m' : Nat) (wh' : Bool) (pv' : Value) (w' : World), n' ≤ 9223372036854775807 → 1 ≤ m' → m' ≤ n' → HS w' pv' (ps.take l) → Calls Try.prog 57 #[.int .i64 (m' : Int), .int .i64 (n' : Int), .bool wh', .agg (enc8 old).toArray, pv'] w' (BothSays n' m' wh' old (ps.take l) w')) :
    Calls Try.prog 57 #[.int .i64 (m : Int), .int .i64 (n : Int), .bool wh, .agg (enc8 old).toArray, pv] w (BothSays n m wh old ps w) := by
  obtain ⟨C, c, rfl, hc, -⟩ := hv.form
  obtain ⟨W, A, hW, hA, hsz, r0, r1, r2, hmw⟩ := box_three w (enc8 old)
  have hk := hlf_range n (by omega)
  have hh := fun w => split_any n (by omega) w
  obtain ⟨p, hp⟩ : ∃ p, ps[l]? = some p := ⟨_, List.getElem?_eq_getElem (by omega)⟩
  obtain ⟨p32, -, g, o, rfl, rp⟩ := hv.at_ l (by omega) p hp
  have hgA : g < A := by
    have h0 := rp 0 (.int .u8 (gb p 0)) (enc8_get p 0 (by omega))
    rw [← hA]
    exact World.block_lt_of_cell? w _ h0
  have hps : ps = ps.take l ++ [p] := by
    have hd : ps.drop l = [p] := by
      have he := List.getElem?_eq_some_iff.1 hp
      rw [List.drop_eq_getElem_cons (by omega), List.drop_eq_nil_of_le (by omega), he.2]
    rw [← hd, List.take_append_drop]
  have hok : bOk n m wh ps = bOk (hlf n) m wh (ps.take l) := by
    conv => lhs; rw [hps]
    exact bOk_left n m wh (ps.take l) p h1 hik
  have htw : bOk (hlf n) m wh (ps.take l) = true → bTwo n m wh old ps = ((bTwo (hlf n) m wh old (ps.take l)).1, nodeL (bTwo (hlf n) m wh old (ps.take l)).2 p) := fun ho => by
    conv => lhs; rw [hps]
    exact bTwo_left n m wh old (ps.take l) p h1 hik ho
  obtain ⟨k, hke⟩ : ∃ k, hlf n = k := ⟨_, rfl⟩
  rw [hke] at hk hik hok htw
  simp only [hke] at hh
  have hup := fun w' hb => IH k m wh (.slice (some ⟨g, o, none⟩) l c) w' (by omega) (by omega) (by omega) ((hv.below (W' := w') hb).take l (by omega))
  unfold BothSays at hup ⊢
  rw [hok]
  obtain ⟨bb, hbb⟩ : ∃ bb, bOk k m wh (ps.take l) = bb := ⟨_, rfl⟩
  rw [hbb] at htw ⊢
  simp only [hbb] at hup
  obtain ⟨tx, htx⟩ : ∃ t, bTwo k m wh old (ps.take l) = t := ⟨_, rfl⟩
  simp only [htx] at hup htw
  have htop := fun (x y : List UInt8) (hx : bb = true → (x, y) = tx) => (fun (h : bb = true) => by
    rw [htw h, ← hx h] : bb = true → (x, nodeL y p) = bTwo n m wh old ps)
  have ka := fun w => sums_runh (some ⟨g, o, none⟩) (l + 1) c l (by omega) (l : Int) rfl w
  have i0 := info32 old hl
  have ip := info32 p p32
  obtain ⟨al, hal⟩ : ∃ al, enc8 old = al := ⟨_, rfl⟩
  obtain ⟨ap, hap⟩ : ∃ ap, enc8 p = ap := ⟨_, rfl⟩
  rw [hal] at hW r0 i0 ⊢
  simp only [hal] at hup
  rw [hap] at ip rp
  obtain ⟨M, hM⟩ : ∃ M, l + 1 = M := ⟨_, rfl⟩
  rw [hm, hM] at hc ⊢
  rw [hM] at ka
  have q1 : ((m : Int) == (n : Int)) = false := by simp; omega
  have q2 : ((M : Int) == 0) = false := by simp; omega
  have q3 : l < M := by omega
  have q3' : (l : Int) < (M : Int) := by omega
  have q4 : decide ((m : Int) ≤ (k : Int)) = true := by simp; omega
  have q4' : decide (m ≤ k) = true := by simp; omega
  have x1 : IntKind.i64.wrap ((M : Int) - 1) = (l : Int) := by rw [IntWalk.i64_in _ (by omega)]; omega
  have xx := hik
  have hu := Try.underlying24
  have HH := Lib.hid hh
  have HUP := Lib.hid hup
  have HTOP := Lib.hid htop
  have HAL := Lib.hid hal
  have HAP := Lib.hid hap
  have HP32 := Lib.hid p32
  have HW := Lib.hid hW
  have HMW := Lib.hid hmw
  have R0 := Lib.hid r0
  have TH := Lib.hid (And.intro r1 r2)
  have RP := Lib.hid rp
  have IP := Lib.hid ip
  have I0 := Lib.hid i0
  clear IH hv hh hup htop hal hap p32 hW hmw r0 r1 r2 rp hp hps hok htw hbb hke hm hl hc ip i0 htx
  go_enter Try.func57, Try.ntmps57
  go_wp2_with fail
  rw [HW.out]
  go_wp2_with fail
  refine (HH.out _).mono ?_
  rintro e w1 ⟨rfl, rfl⟩
  go_wp2_with fail
  have hs3 : A + 3 ≤ w1.heap.size := Nat.le_of_eq hsz.symm
  clear hsz
  have i0 := I0.out
  obtain ⟨hk1, hk2⟩ := hk
  obtain ⟨h11, h12⟩ := h1
  apply by_key (F := fun GA GB x y wz => (x.length = 32 ∧ y.length = 32 ∧ (bb = true → (x, y) = tx)) ∧ (A + 3 ≤ GA ∧ A + 3 ≤ GB) ∧ Mine A w wz ∧ wz.there (A + 1) 0 32 ∧ wz.there (A + 1 + 1) 0 32 ∧ wz.rangeAt GA 0 (enc8 x) ∧ wz.rangeAt GB 0 (enc8 y))
  case main =>
    intro KEY
    refine wp_region_noPanic ?_
    refine wp_region_held_drew (S := (fun w' => (Mine A w w' ∧ w'.there (A + 1) 0 32 ∧ w'.there (A + 1 + 1) 0 32) ∧ w'.rangeAt A 0 al)) (by kernel_rfl) ?_ (fun hHeld => ?_)
    · exact ⟨⟨⟨HMW.out.le, HMW.out.bel.drew⟩, (World.there_drew _ _ _ _).2 TH.out.1, (World.there_drew _ _ _ _).2 TH.out.2⟩, (World.rangeAt_drew _ _ _ _).2 R0.out.range⟩
    refine wpAnyH_take (i := 0) (oi := { dst := some 55, op := Op.move (Operand.tmp 0), type := 3, pos := "ref.go:127", after := #[], guard := none }) (v := ?v0_0) rfl (by kernel_rfl) (by kernel_rfl) (by kernel_rfl) (fun _ _ _ h => h) (Or.inl ⟨by rfl, ?y0_0⟩) (by assumption) ?r0_0
    case y0_0 => intro w hSw; (try dsimp only at hSw); go_simp; try with_reducible rfl
    try simp only [Act.put, List.setIfInBounds_toArray, List.set_cons_zero, List.set_cons_succ]
    refine wpAnyH_take (i := 1) (oi := { dst := some 56, op := Op.move (Operand.tmp 13), type := 3, pos := "ref.go:127", after := #[], guard := none }) (v := ?v1_1) rfl (by kernel_rfl) (by kernel_rfl) (by kernel_rfl) (fun _ _ _ h => h) (Or.inl ⟨by rfl, ?y1_1⟩) (by assumption) ?r1_1
    case y1_1 => intro w hSw; (try dsimp only at hSw); go_simp; try with_reducible rfl
    try simp only [Act.put, List.setIfInBounds_toArray, List.set_cons_zero, List.set_cons_succ]
    refine wpAnyH_take (i := 2) (oi := { dst := some 57, op := Op.move (Operand.tmp 2), type := 4, pos := "ref.go:127", after := #[], guard := none }) (v := ?v2_2) rfl (by kernel_rfl) (by kernel_rfl) (by kernel_rfl) (fun _ _ _ h => h) (Or.inl ⟨by rfl, ?y2_2⟩) (by assumption) ?r2_2
    case y2_2 => intro w hSw; (try dsimp only at hSw); go_simp; try with_reducible rfl
    try simp only [Act.put, List.setIfInBounds_toArray, List.set_cons_zero, List.set_cons_succ]
    refine wpAnyH_take (i := 4) (oi := { dst := some 59, op := Op.move (Operand.tmp 4), type := 29, pos := "ref.go:127", after := #[], guard := none }) (v := ?v4_3) rfl (by kernel_rfl) (by kernel_rfl) (by kernel_rfl) (fun _ _ _ h => h) (Or.inl ⟨by rfl, ?y4_3⟩) (by assumption) ?r4_3
    case y4_3 => intro w hSw; (try dsimp only at hSw); go_simp; try with_reducible rfl
    try simp only [Act.put, List.setIfInBounds_toArray, List.set_cons_zero, List.set_cons_succ]
    refine wpAnyH_take (i := 5) (oi := { dst := some 60, op := Op.move (Operand.tmp 14), type := 3, pos := "ref.go:127", after := #[], guard := none }) (v := ?v5_4) rfl (by kernel_rfl) (by kernel_rfl) (by kernel_rfl) (fun _ _ _ h => h) (Or.inl ⟨by rfl, ?y5_4⟩) (by assumption) ?r5_4
    case y5_4 => intro w hSw; (try dsimp only at hSw); go_simp; try with_reducible rfl
    try simp only [Act.put, List.setIfInBounds_toArray, List.set_cons_zero, List.set_cons_succ]
    refine wpAnyH_take (i := 6) (oi := { dst := some 61, op := Op.slice 29 (Operand.tmp 59) none (some (Operand.tmp 60)) none, type := 29, pos := "ref.go:127", after := #[{ on := 4, ground := Ground.data }, { on := 5, ground := Ground.data }], guard := none }) (v := ?v6_5) rfl (by kernel_rfl) (by kernel_rfl) (by kernel_rfl) (fun _ _ _ h => h) (Or.inl ⟨by rfl, ?y6_5⟩) (by assumption) ?r6_5
    case y6_5 => intro w hSw; (try dsimp only at hSw); go_simp; try with_reducible rfl
    try simp only [Act.put, List.setIfInBounds_toArray, List.set_cons_zero, List.set_cons_succ]
    refine wpAnyH_take (i := 3) (oi := { dst := some 58, op := Op.load 24 (Operand.tmp 8), type := 24, pos := "ref.go:127", after := #[], guard := none }) (v := _) rfl (by kernel_rfl) (by kernel_rfl) (by kernel_rfl) (fun _ _ _ h => h) (yieldsIf_load_mid (by rfl) _ _ rfl _ _ rfl _ _ (by intro w hSw; (try dsimp only at hSw); go_split_ands; assumption) (by assumption) rfl (by first | assumption | (simp only [*]; done))) (by assumption) ?_
    try simp only [Act.put, List.setIfInBounds_toArray, List.set_cons_zero, List.set_cons_succ]
    refine wpAnyH_ready (rs := [7, 12, 13]) (by kernel_rfl) (by simp) (AllReadyH.cons (o := { dst := some 62, op := Op.call { callee := Callee.value (Operand.func 57), args := #[Operand.tmp 55, Operand.tmp 56, Operand.tmp 57, Operand.tmp 58, Operand.tmp 61], argTypes := #[3, 3, 4, 24, 29] }, type := 83, pos := "ref.go:127", after := #[{ on := 0, ground := Ground.data }, { on := 1, ground := Ground.data }, { on := 2, ground := Ground.data }, { on := 3, ground := Ground.data }, { on := 6, ground := Ground.data }], guard := none }) rfl (fun K hK => ?_) (AllReadyH.cons (o := { dst := some 15, op := Op.alloc 24, type := 0, pos := "ref.go:127", after := #[], guard := none }) rfl (fun K hK => ?_) (AllReadyH.cons (o := { dst := some 16, op := Op.alloc 24, type := 0, pos := "ref.go:127", after := #[], guard := none }) rfl (fun K hK => ?_) (AllReadyH.nil))))
    ·
      go_simp
      refine (HUP.out _ (by rw [hA]; go_split_ands; exact Mine.bel (by assumption))).mono ?_; rintro e w2 ⟨x, y, rfl, hx32, hy32, hxc, hb⟩; have hAG0 : A + 3 ≤ w2.heap.size := Nat.le_trans (by go_split_ands; exact there_size (by assumption)) hb.size; have ix := info32 x hx32; have fx := enc8_one x; have lx : (enc8 x).length = 32 := (by rw [enc8_len, hx32]); have iy := info32 y hy32; have fy := enc8_one y; have ly : (enc8 y).length = 32 := (by rw [enc8_len, hy32])
      go_wp2_with fail
      refine hK.out _ _ ?_ (fun hHeld => ?_)
      · (try dsimp only); (go_split_ands; (repeat' apply And.intro) <;> first | assumption | exact Mine.call (by assumption) (by assumption) | exact Mine.alloc (by assumption) _ | exact Mine.setCells (by assumption) _ _ _ (by omega) | exact Mine.callN (by assumption) (by assumption) (by omega) | exact Row.belowN (by assumption) (by assumption) (by omega) | exact there_belowN (by assumption) (by assumption) (by omega) | exact rangeAt_below (by assumption) (by assumption) | exact World.rangeAt_alloc (by assumption) _ | exact World.rangeAt_setCells_apart (by assumption) _ _ _ (Or.inl (by omega)) | exact there_below (by assumption) (by assumption) | exact World.there_alloc (by assumption) _ | exact World.there_setCells (by assumption) _ _ _ | exact Row.belowS (by assumption) (by assumption) | exact Row.alloc (by assumption) _ | exact Row.setCells (by assumption) _ _ (by omega) | exact HS.below (by assumption) (by assumption) | exact SB.below (by assumption) (by assumption) | exact HS.alloc (by assumption) _ | exact Box.call (by assumption) (by assumption) | exact Box.alloc (by assumption) _ | exact Box.put (by assumption) _ (by assumption) | exact cell_below (by assumption) (by assumption) | exact Lib.cell?_alloc_some _ (by assumption))
      clear hK K
      try simp only [Act.put, List.setIfInBounds_toArray, List.set_cons_zero, List.set_cons_succ]
      refine wpAnyH_take (i := 8) (oi := { dst := some 54, op := Op.move (Operand.tmp 62), type := 83, pos := "ref.go:127", after := #[{ on := 7, ground := Ground.data }], guard := none }) (v := ?v8_6) rfl (by kernel_rfl) (by kernel_rfl) (by kernel_rfl) (fun _ _ _ h => h) (Or.inl ⟨by rfl, ?y8_6⟩) (by assumption) ?r8_6
      case y8_6 => intro w hSw; (try dsimp only at hSw); go_simp; try with_reducible rfl
      try simp only [Act.put, List.setIfInBounds_toArray, List.set_cons_zero, List.set_cons_succ]
      refine wpAnyH_take (i := 9) (oi := { dst := some 63, op := Op.extract (Operand.tmp 54) 0, type := 24, pos := "ref.go:127", after := #[{ on := 8, ground := Ground.data }], guard := none }) (v := ?v9_7) rfl (by kernel_rfl) (by kernel_rfl) (by kernel_rfl) (fun _ _ _ h => h) (Or.inl ⟨by rfl, ?y9_7⟩) (by assumption) ?r9_7
      case y9_7 => intro w hSw; (try dsimp only at hSw); go_simp; try with_reducible rfl
      try simp only [Act.put, List.setIfInBounds_toArray, List.set_cons_zero, List.set_cons_succ]
      refine wpAnyH_take (i := 10) (oi := { dst := some 64, op := Op.extract (Operand.tmp 54) 1, type := 24, pos := "ref.go:127", after := #[{ on := 8, ground := Ground.data }, { on := 14, ground := Ground.gcOnly Departure.lateStores }], guard := none }) (v := ?v10_8) rfl (by kernel_rfl) (by kernel_rfl) (by kernel_rfl) (fun _ _ _ h => h) (Or.inl ⟨by rfl, ?y10_8⟩) (by assumption) ?r10_8
      case y10_8 => intro w hSw; (try dsimp only at hSw); go_simp; try with_reducible rfl
      try simp only [Act.put, List.setIfInBounds_toArray, List.set_cons_zero, List.set_cons_succ]
      refine wpAnyH_take (i := 11) (oi := { dst := some 65, op := Op.extract (Operand.tmp 54) 2, type := 4, pos := "ref.go:127", after := #[{ on := 8, ground := Ground.data }, { on := 15, ground := Ground.gcOnly Departure.lateStores }], guard := none }) (v := ?v11_9) rfl (by kernel_rfl) (by kernel_rfl) (by kernel_rfl) (fun _ _ _ h => h) (Or.inl ⟨by rfl, ?y11_9⟩) (by assumption) ?r11_9
      case y11_9 => intro w hSw; (try dsimp only at hSw); go_simp; try with_reducible rfl
      try simp only [Act.put, List.setIfInBounds_toArray, List.set_cons_zero, List.set_cons_succ]
      refine wpAnyH_ready (rs := [12, 13]) (by kernel_rfl) (by simp) (AllReadyH.cons (o := { dst := some 15, op := Op.alloc 24, type := 0, pos := "ref.go:127", after := #[], guard := none }) rfl (fun K hK => ?_) (AllReadyH.cons (o := { dst := some 16, op := Op.alloc 24, type := 0, pos := "ref.go:127", after := #[], guard := none }) rfl (fun K hK => ?_) (AllReadyH.nil)))
      ·
        go_simp
        try clear hOld
        try clear hPre
        have hOld := hHeld
        refine hK.out _ _ ?_ (fun hHeld => ?_)
        · (try dsimp only); (go_split_ands; (repeat' apply And.intro) <;> first | assumption | exact Mine.call (by assumption) (by assumption) | exact Mine.alloc (by assumption) _ | exact Mine.setCells (by assumption) _ _ _ (by omega) | exact Mine.callN (by assumption) (by assumption) (by omega) | exact Row.belowN (by assumption) (by assumption) (by omega) | exact there_belowN (by assumption) (by assumption) (by omega) | exact rangeAt_below (by assumption) (by assumption) | exact World.rangeAt_alloc (by assumption) _ | exact World.rangeAt_setCells_apart (by assumption) _ _ _ (Or.inl (by omega)) | exact there_below (by assumption) (by assumption) | exact World.there_alloc (by assumption) _ | exact World.there_setCells (by assumption) _ _ _ | exact Row.belowS (by assumption) (by assumption) | exact Row.alloc (by assumption) _ | exact Row.setCells (by assumption) _ _ (by omega) | exact HS.below (by assumption) (by assumption) | exact SB.below (by assumption) (by assumption) | exact HS.alloc (by assumption) _ | exact Box.call (by assumption) (by assumption) | exact Box.alloc (by assumption) _ | exact Box.put (by assumption) _ (by assumption) | exact cell_below (by assumption) (by assumption) | exact Lib.cell?_alloc_some _ (by assumption))
        clear hK K
        try simp only [Act.put, List.setIfInBounds_toArray, List.set_cons_zero, List.set_cons_succ]
        obtain ⟨GA, hGA⟩ : ∃ B, w2.heap.size = B := ⟨_, rfl⟩
        try rw [hGA]
        refine wpAnyH_with (E := fun w' => w'.there GA 0 32 ∧ A + 3 ≤ GA) (by (try dsimp only); refine ⟨?_, ?_⟩ <;> rw [← hGA] <;> first | exact new_there _ | exact (World.there_drew _ _ _ _).2 (new_there _) | assumption | (first | omega | exact new_there1 _ _ | exact (World.there_drew _ _ _ _).2 (new_there1 _ _) | exact Nat.ne_of_lt (there_size (n := 31) (by go_split_ands; assumption)))) hHeld (fun hHeld => ?_)
        try dsimp only at hHeld
        refine wpAnyH_ready (rs := [13]) (by kernel_rfl) (by simp) (AllReadyH.cons (o := { dst := some 16, op := Op.alloc 24, type := 0, pos := "ref.go:127", after := #[], guard := none }) rfl (fun K hK => ?_) (AllReadyH.nil))
        go_simp
        try clear hOld
        try clear hPre
        have hOld := hHeld
        refine hK.out _ _ ?_ (fun hHeld => ?_)
        · (try dsimp only); (go_split_ands; (repeat' apply And.intro) <;> first | assumption | exact Mine.call (by assumption) (by assumption) | exact Mine.alloc (by assumption) _ | exact Mine.setCells (by assumption) _ _ _ (by omega) | exact Mine.callN (by assumption) (by assumption) (by omega) | exact Row.belowN (by assumption) (by assumption) (by omega) | exact there_belowN (by assumption) (by assumption) (by omega) | exact rangeAt_below (by assumption) (by assumption) | exact World.rangeAt_alloc (by assumption) _ | exact World.rangeAt_setCells_apart (by assumption) _ _ _ (Or.inl (by omega)) | exact there_below (by assumption) (by assumption) | exact World.there_alloc (by assumption) _ | exact World.there_setCells (by assumption) _ _ _ | exact Row.belowS (by assumption) (by assumption) | exact Row.alloc (by assumption) _ | exact Row.setCells (by assumption) _ _ (by omega) | exact HS.below (by assumption) (by assumption) | exact SB.below (by assumption) (by assumption) | exact HS.alloc (by assumption) _ | exact Box.call (by assumption) (by assumption) | exact Box.alloc (by assumption) _ | exact Box.put (by assumption) _ (by assumption) | exact cell_below (by assumption) (by assumption) | exact Lib.cell?_alloc_some _ (by assumption))
        clear hK K
        try simp only [Act.put, List.setIfInBounds_toArray, List.set_cons_zero, List.set_cons_succ]
        obtain ⟨GB, hGB⟩ : ∃ B, GA + 1 = B := ⟨_, rfl⟩
        try rw [hGB]
        refine wpAnyH_with (E := fun w' => w'.there GB 0 32 ∧ A + 3 ≤ GB ∧ GA ≠ GB) (by (try dsimp only); refine ⟨?_, ?_, ?_⟩ <;> rw [← hGB, ← hGA] <;> first | exact new_there _ | exact (World.there_drew _ _ _ _).2 (new_there _) | assumption | (first | omega | exact new_there1 _ _ | exact (World.there_drew _ _ _ _).2 (new_there1 _ _) | exact Nat.ne_of_lt (there_size (n := 31) (by go_split_ands; assumption)))) hHeld (fun hHeld => ?_)
        try dsimp only at hHeld
        try clear hOld
        try clear hPre
        have hPre := hHeld
        refine wpAnyH_ready (rs := [14]) (by kernel_rfl) (by simp) (AllReadyH.cons (o := { dst := none, op := Op.store 24 (Operand.tmp 15) (Operand.tmp 63), type := 0, pos := "ref.go:127", after := #[{ on := 12, ground := Ground.data }, { on := 9, ground := Ground.data }, { on := 7, ground := Ground.chain }, { on := 0, ground := Ground.phase }, { on := 1, ground := Ground.phase }, { on := 2, ground := Ground.phase }, { on := 3, ground := Ground.phase }, { on := 4, ground := Ground.phase }, { on := 5, ground := Ground.phase }, { on := 6, ground := Ground.phase }, { on := 7, ground := Ground.phase }, { on := 8, ground := Ground.phase }, { on := 9, ground := Ground.phase }, { on := 10, ground := Ground.textOnly Departure.lateStores }, { on := 11, ground := Ground.textOnly Departure.lateStores }, { on := 12, ground := Ground.phase }, { on := 13, ground := Ground.phase }], guard := none }) rfl (fun K hK => ?_) AllReadyH.nil)
        rw [if_pos (by rfl)]
        refine wp_store_mid _ _ _ rfl _ _ (List.toArray _) rfl rfl (by go_split_ands; first | assumption | (simp only [List.size_toArray, *] <;> assumption)) (by first | assumption | (simp only [List.size_toArray] <;> assumption) | (simp only [List.size_toArray, *]; done)) (all_oneCell_toArray (by assumption)) ?_
        simp only [Act.put, List.setIfInBounds_toArray, List.set_cons_zero, List.set_cons_succ, List.toList_toArray]
        refine hK.out _ _ ?_ (fun hHeld => ?_)
        · (try dsimp only); (go_split_ands; (repeat' apply And.intro) <;> first | assumption | exact Mine.call (by assumption) (by assumption) | exact Mine.alloc (by assumption) _ | exact Mine.setCells (by assumption) _ _ _ (by omega) | exact Mine.callN (by assumption) (by assumption) (by omega) | exact Row.belowN (by assumption) (by assumption) (by omega) | exact there_belowN (by assumption) (by assumption) (by omega) | exact rangeAt_below (by assumption) (by assumption) | exact World.rangeAt_alloc (by assumption) _ | exact World.rangeAt_setCells_apart (by assumption) _ _ _ (Or.inl (by omega)) | exact there_below (by assumption) (by assumption) | exact World.there_alloc (by assumption) _ | exact World.there_setCells (by assumption) _ _ _ | exact Row.belowS (by assumption) (by assumption) | exact Row.alloc (by assumption) _ | exact Row.setCells (by assumption) _ _ (by omega) | exact HS.below (by assumption) (by assumption) | exact SB.below (by assumption) (by assumption) | exact HS.alloc (by assumption) _ | exact Box.call (by assumption) (by assumption) | exact Box.alloc (by assumption) _ | exact Box.put (by assumption) _ (by assumption) | exact cell_below (by assumption) (by assumption) | exact Lib.cell?_alloc_some _ (by assumption))
        clear hK K
        refine wpAnyH_with (E := fun w' => (w'.rangeAt GA 0 (enc8 x))) (by (try dsimp only); exact World.rangeAt_setCells_same _ GA 0 (enc8 x) (by rw [lx]; go_split_ands; assumption)) hHeld (fun hHeld => ?_)
        try dsimp only at hHeld
        try clear hOld
        try clear hPre
        have hPre := hHeld
        refine wpAnyH_ready (rs := [15]) (by kernel_rfl) (by simp) (AllReadyH.cons (o := { dst := none, op := Op.store 24 (Operand.tmp 16) (Operand.tmp 64), type := 0, pos := "ref.go:127", after := #[{ on := 13, ground := Ground.data }, { on := 10, ground := Ground.data }, { on := 14, ground := Ground.chain }, { on := 0, ground := Ground.phase }, { on := 1, ground := Ground.phase }, { on := 2, ground := Ground.phase }, { on := 3, ground := Ground.phase }, { on := 4, ground := Ground.phase }, { on := 5, ground := Ground.phase }, { on := 6, ground := Ground.phase }, { on := 7, ground := Ground.phase }, { on := 8, ground := Ground.phase }, { on := 9, ground := Ground.phase }, { on := 10, ground := Ground.phase }, { on := 11, ground := Ground.textOnly Departure.lateStores }, { on := 12, ground := Ground.phase }, { on := 13, ground := Ground.phase }, { on := 14, ground := Ground.phase }], guard := none }) rfl (fun K hK => ?_) AllReadyH.nil)
        rw [if_pos (by rfl)]
        refine wp_store_mid _ _ _ rfl _ _ (List.toArray _) rfl rfl (by go_split_ands; first | assumption | (simp only [List.size_toArray, *] <;> assumption)) (by first | assumption | (simp only [List.size_toArray] <;> assumption) | (simp only [List.size_toArray, *]; done)) (all_oneCell_toArray (by assumption)) ?_
        simp only [Act.put, List.setIfInBounds_toArray, List.set_cons_zero, List.set_cons_succ, List.toList_toArray]
        refine hK.out _ _ ?_ (fun hHeld => ?_)
        · (try dsimp only); (go_split_ands; (repeat' apply And.intro) <;> first | assumption | exact Mine.call (by assumption) (by assumption) | exact Mine.alloc (by assumption) _ | exact Mine.setCells (by assumption) _ _ _ (by omega) | exact Mine.callN (by assumption) (by assumption) (by omega) | exact Row.belowN (by assumption) (by assumption) (by omega) | exact there_belowN (by assumption) (by assumption) (by omega) | exact rangeAt_below (by assumption) (by assumption) | exact World.rangeAt_alloc (by assumption) _ | exact World.rangeAt_setCells_apart (by assumption) _ _ _ (Or.inl (by omega)) | exact there_below (by assumption) (by assumption) | exact World.there_alloc (by assumption) _ | exact World.there_setCells (by assumption) _ _ _ | exact Row.belowS (by assumption) (by assumption) | exact Row.alloc (by assumption) _ | exact Row.setCells (by assumption) _ _ (by omega) | exact HS.below (by assumption) (by assumption) | exact SB.below (by assumption) (by assumption) | exact HS.alloc (by assumption) _ | exact Box.call (by assumption) (by assumption) | exact Box.alloc (by assumption) _ | exact Box.put (by assumption) _ (by assumption) | exact cell_below (by assumption) (by assumption) | exact Lib.cell?_alloc_some _ (by assumption))
        clear hK K
        refine wpAnyH_with (E := fun w' => (w'.rangeAt GB 0 (enc8 y))) (by (try dsimp only); exact World.rangeAt_setCells_same _ GB 0 (enc8 y) (by rw [ly]; go_split_ands; assumption)) hHeld (fun hHeld => ?_)
        try dsimp only at hHeld
        refine wpAnyH_take (i := 16) (oi := { dst := some 17, op := Op.assign (Operand.tmp 65), type := 4, pos := "ref.go:127", after := #[{ on := 11, ground := Ground.data }, { on := 15, ground := Ground.chain }, { on := 0, ground := Ground.phase }, { on := 1, ground := Ground.phase }, { on := 2, ground := Ground.phase }, { on := 3, ground := Ground.phase }, { on := 4, ground := Ground.phase }, { on := 5, ground := Ground.phase }, { on := 6, ground := Ground.phase }, { on := 7, ground := Ground.phase }, { on := 8, ground := Ground.phase }, { on := 9, ground := Ground.phase }, { on := 10, ground := Ground.phase }, { on := 11, ground := Ground.phase }, { on := 12, ground := Ground.phase }, { on := 13, ground := Ground.phase }, { on := 14, ground := Ground.phase }, { on := 15, ground := Ground.phase }], guard := none }) (v := ?v16_10) rfl (by kernel_rfl) (by kernel_rfl) (by kernel_rfl) (fun _ _ _ h => h) (Or.inl ⟨by rfl, ?y16_10⟩) (by assumption) ?r16_10
        case y16_10 => intro w hSw; (try dsimp only at hSw); go_simp; try with_reducible rfl
        try simp only [Act.put, List.setIfInBounds_toArray, List.set_cons_zero, List.set_cons_succ]
        refine wpAnyH_done (by kernel_rfl) ?_ _
        refine NoPanic.normal ?_
        generalize World.setCells _ GB 0 (enc8 y) = wz at hHeld ⊢
        refine KEY GA GB x y wz ?_
        obtain ⟨⟨⟨⟨⟨⟨a1, a2, a3⟩, a4⟩, b1⟩, c1⟩, d1⟩, e1⟩ := hHeld
        first
          | exact ⟨⟨hx32, hy32, hxc⟩, ⟨b1.2, c1.2.1⟩, a1, a2, a3, d1, e1⟩
          | exact ⟨⟨hx32, hy32, hxc⟩, ⟨c1.2.1, b1.2⟩, a1, a2, a3, d1, e1⟩
      ·
        go_simp
        try clear hOld
        try clear hPre
        have hOld := hHeld
        refine hK.out _ _ ?_ (fun hHeld => ?_)
        · (try dsimp only); (go_split_ands; (repeat' apply And.intro) <;> first | assumption | exact Mine.call (by assumption) (by assumption) | exact Mine.alloc (by assumption) _ | exact Mine.setCells (by assumption) _ _ _ (by omega) | exact Mine.callN (by assumption) (by assumption) (by omega) | exact Row.belowN (by assumption) (by assumption) (by omega) | exact there_belowN (by assumption) (by assumption) (by omega) | exact rangeAt_below (by assumption) (by assumption) | exact World.rangeAt_alloc (by assumption) _ | exact World.rangeAt_setCells_apart (by assumption) _ _ _ (Or.inl (by omega)) | exact there_below (by assumption) (by assumption) | exact World.there_alloc (by assumption) _ | exact World.there_setCells (by assumption) _ _ _ | exact Row.belowS (by assumption) (by assumption) | exact Row.alloc (by assumption) _ | exact Row.setCells (by assumption) _ _ (by omega) | exact HS.below (by assumption) (by assumption) | exact SB.below (by assumption) (by assumption) | exact HS.alloc (by assumption) _ | exact Box.call (by assumption) (by assumption) | exact Box.alloc (by assumption) _ | exact Box.put (by assumption) _ (by assumption) | exact cell_below (by assumption) (by assumption) | exact Lib.cell?_alloc_some _ (by assumption))
        clear hK K
        try simp only [Act.put, List.setIfInBounds_toArray, List.set_cons_zero, List.set_cons_succ]
        obtain ⟨GB, hGB⟩ : ∃ B, w2.heap.size = B := ⟨_, rfl⟩
        try rw [hGB]
        refine wpAnyH_with (E := fun w' => w'.there GB 0 32 ∧ A + 3 ≤ GB) (by (try dsimp only); refine ⟨?_, ?_⟩ <;> rw [← hGB] <;> first | exact new_there _ | exact (World.there_drew _ _ _ _).2 (new_there _) | assumption | (first | omega | exact new_there1 _ _ | exact (World.there_drew _ _ _ _).2 (new_there1 _ _) | exact Nat.ne_of_lt (there_size (n := 31) (by go_split_ands; assumption)))) hHeld (fun hHeld => ?_)
        try dsimp only at hHeld
        refine wpAnyH_ready (rs := [12]) (by kernel_rfl) (by simp) (AllReadyH.cons (o := { dst := some 15, op := Op.alloc 24, type := 0, pos := "ref.go:127", after := #[], guard := none }) rfl (fun K hK => ?_) (AllReadyH.nil))
        go_simp
        try clear hOld
        try clear hPre
        have hOld := hHeld
        refine hK.out _ _ ?_ (fun hHeld => ?_)
        · (try dsimp only); (go_split_ands; (repeat' apply And.intro) <;> first | assumption | exact Mine.call (by assumption) (by assumption) | exact Mine.alloc (by assumption) _ | exact Mine.setCells (by assumption) _ _ _ (by omega) | exact Mine.callN (by assumption) (by assumption) (by omega) | exact Row.belowN (by assumption) (by assumption) (by omega) | exact there_belowN (by assumption) (by assumption) (by omega) | exact rangeAt_below (by assumption) (by assumption) | exact World.rangeAt_alloc (by assumption) _ | exact World.rangeAt_setCells_apart (by assumption) _ _ _ (Or.inl (by omega)) | exact there_below (by assumption) (by assumption) | exact World.there_alloc (by assumption) _ | exact World.there_setCells (by assumption) _ _ _ | exact Row.belowS (by assumption) (by assumption) | exact Row.alloc (by assumption) _ | exact Row.setCells (by assumption) _ _ (by omega) | exact HS.below (by assumption) (by assumption) | exact SB.below (by assumption) (by assumption) | exact HS.alloc (by assumption) _ | exact Box.call (by assumption) (by assumption) | exact Box.alloc (by assumption) _ | exact Box.put (by assumption) _ (by assumption) | exact cell_below (by assumption) (by assumption) | exact Lib.cell?_alloc_some _ (by assumption))
        clear hK K
        try simp only [Act.put, List.setIfInBounds_toArray, List.set_cons_zero, List.set_cons_succ]
        obtain ⟨GA, hGA⟩ : ∃ B, GB + 1 = B := ⟨_, rfl⟩
        try rw [hGA]
        refine wpAnyH_with (E := fun w' => w'.there GA 0 32 ∧ A + 3 ≤ GA ∧ GB ≠ GA) (by (try dsimp only); refine ⟨?_, ?_, ?_⟩ <;> rw [← hGA, ← hGB] <;> first | exact new_there _ | exact (World.there_drew _ _ _ _).2 (new_there _) | assumption | (first | omega | exact new_there1 _ _ | exact (World.there_drew _ _ _ _).2 (new_there1 _ _) | exact Nat.ne_of_lt (there_size (n := 31) (by go_split_ands; assumption)))) hHeld (fun hHeld => ?_)
        try dsimp only at hHeld
        try clear hOld
        try clear hPre
        have hPre := hHeld
        refine wpAnyH_ready (rs := [14]) (by kernel_rfl) (by simp) (AllReadyH.cons (o := { dst := none, op := Op.store 24 (Operand.tmp 15) (Operand.tmp 63), type := 0, pos := "ref.go:127", after := #[{ on := 12, ground := Ground.data }, { on := 9, ground := Ground.data }, { on := 7, ground := Ground.chain }, { on := 0, ground := Ground.phase }, { on := 1, ground := Ground.phase }, { on := 2, ground := Ground.phase }, { on := 3, ground := Ground.phase }, { on := 4, ground := Ground.phase }, { on := 5, ground := Ground.phase }, { on := 6, ground := Ground.phase }, { on := 7, ground := Ground.phase }, { on := 8, ground := Ground.phase }, { on := 9, ground := Ground.phase }, { on := 10, ground := Ground.textOnly Departure.lateStores }, { on := 11, ground := Ground.textOnly Departure.lateStores }, { on := 12, ground := Ground.phase }, { on := 13, ground := Ground.phase }], guard := none }) rfl (fun K hK => ?_) AllReadyH.nil)
        rw [if_pos (by rfl)]
        refine wp_store_mid _ _ _ rfl _ _ (List.toArray _) rfl rfl (by go_split_ands; first | assumption | (simp only [List.size_toArray, *] <;> assumption)) (by first | assumption | (simp only [List.size_toArray] <;> assumption) | (simp only [List.size_toArray, *]; done)) (all_oneCell_toArray (by assumption)) ?_
        simp only [Act.put, List.setIfInBounds_toArray, List.set_cons_zero, List.set_cons_succ, List.toList_toArray]
        refine hK.out _ _ ?_ (fun hHeld => ?_)
        · (try dsimp only); (go_split_ands; (repeat' apply And.intro) <;> first | assumption | exact Mine.call (by assumption) (by assumption) | exact Mine.alloc (by assumption) _ | exact Mine.setCells (by assumption) _ _ _ (by omega) | exact Mine.callN (by assumption) (by assumption) (by omega) | exact Row.belowN (by assumption) (by assumption) (by omega) | exact there_belowN (by assumption) (by assumption) (by omega) | exact rangeAt_below (by assumption) (by assumption) | exact World.rangeAt_alloc (by assumption) _ | exact World.rangeAt_setCells_apart (by assumption) _ _ _ (Or.inl (by omega)) | exact there_below (by assumption) (by assumption) | exact World.there_alloc (by assumption) _ | exact World.there_setCells (by assumption) _ _ _ | exact Row.belowS (by assumption) (by assumption) | exact Row.alloc (by assumption) _ | exact Row.setCells (by assumption) _ _ (by omega) | exact HS.below (by assumption) (by assumption) | exact SB.below (by assumption) (by assumption) | exact HS.alloc (by assumption) _ | exact Box.call (by assumption) (by assumption) | exact Box.alloc (by assumption) _ | exact Box.put (by assumption) _ (by assumption) | exact cell_below (by assumption) (by assumption) | exact Lib.cell?_alloc_some _ (by assumption))
        clear hK K
        refine wpAnyH_with (E := fun w' => (w'.rangeAt GA 0 (enc8 x))) (by (try dsimp only); exact World.rangeAt_setCells_same _ GA 0 (enc8 x) (by rw [lx]; go_split_ands; assumption)) hHeld (fun hHeld => ?_)
        try dsimp only at hHeld
        try clear hOld
        try clear hPre
        have hPre := hHeld
        refine wpAnyH_ready (rs := [15]) (by kernel_rfl) (by simp) (AllReadyH.cons (o := { dst := none, op := Op.store 24 (Operand.tmp 16) (Operand.tmp 64), type := 0, pos := "ref.go:127", after := #[{ on := 13, ground := Ground.data }, { on := 10, ground := Ground.data }, { on := 14, ground := Ground.chain }, { on := 0, ground := Ground.phase }, { on := 1, ground := Ground.phase }, { on := 2, ground := Ground.phase }, { on := 3, ground := Ground.phase }, { on := 4, ground := Ground.phase }, { on := 5, ground := Ground.phase }, { on := 6, ground := Ground.phase }, { on := 7, ground := Ground.phase }, { on := 8, ground := Ground.phase }, { on := 9, ground := Ground.phase }, { on := 10, ground := Ground.phase }, { on := 11, ground := Ground.textOnly Departure.lateStores }, { on := 12, ground := Ground.phase }, { on := 13, ground := Ground.phase }, { on := 14, ground := Ground.phase }], guard := none }) rfl (fun K hK => ?_) AllReadyH.nil)
        rw [if_pos (by rfl)]
        refine wp_store_mid _ _ _ rfl _ _ (List.toArray _) rfl rfl (by go_split_ands; first | assumption | (simp only [List.size_toArray, *] <;> assumption)) (by first | assumption | (simp only [List.size_toArray] <;> assumption) | (simp only [List.size_toArray, *]; done)) (all_oneCell_toArray (by assumption)) ?_
        simp only [Act.put, List.setIfInBounds_toArray, List.set_cons_zero, List.set_cons_succ, List.toList_toArray]
        refine hK.out _ _ ?_ (fun hHeld => ?_)
        · (try dsimp only); (go_split_ands; (repeat' apply And.intro) <;> first | assumption | exact Mine.call (by assumption) (by assumption) | exact Mine.alloc (by assumption) _ | exact Mine.setCells (by assumption) _ _ _ (by omega) | exact Mine.callN (by assumption) (by assumption) (by omega) | exact Row.belowN (by assumption) (by assumption) (by omega) | exact there_belowN (by assumption) (by assumption) (by omega) | exact rangeAt_below (by assumption) (by assumption) | exact World.rangeAt_alloc (by assumption) _ | exact World.rangeAt_setCells_apart (by assumption) _ _ _ (Or.inl (by omega)) | exact there_below (by assumption) (by assumption) | exact World.there_alloc (by assumption) _ | exact World.there_setCells (by assumption) _ _ _ | exact Row.belowS (by assumption) (by assumption) | exact Row.alloc (by assumption) _ | exact Row.setCells (by assumption) _ _ (by omega) | exact HS.below (by assumption) (by assumption) | exact SB.below (by assumption) (by assumption) | exact HS.alloc (by assumption) _ | exact Box.call (by assumption) (by assumption) | exact Box.alloc (by assumption) _ | exact Box.put (by assumption) _ (by assumption) | exact cell_below (by assumption) (by assumption) | exact Lib.cell?_alloc_some _ (by assumption))
        clear hK K
        refine wpAnyH_with (E := fun w' => (w'.rangeAt GB 0 (enc8 y))) (by (try dsimp only); exact World.rangeAt_setCells_same _ GB 0 (enc8 y) (by rw [ly]; go_split_ands; assumption)) hHeld (fun hHeld => ?_)
        try dsimp only at hHeld
        refine wpAnyH_take (i := 16) (oi := { dst := some 17, op := Op.assign (Operand.tmp 65), type := 4, pos := "ref.go:127", after := #[{ on := 11, ground := Ground.data }, { on := 15, ground := Ground.chain }, { on := 0, ground := Ground.phase }, { on := 1, ground := Ground.phase }, { on := 2, ground := Ground.phase }, { on := 3, ground := Ground.phase }, { on := 4, ground := Ground.phase }, { on := 5, ground := Ground.phase }, { on := 6, ground := Ground.phase }, { on := 7, ground := Ground.phase }, { on := 8, ground := Ground.phase }, { on := 9, ground := Ground.phase }, { on := 10, ground := Ground.phase }, { on := 11, ground := Ground.phase }, { on := 12, ground := Ground.phase }, { on := 13, ground := Ground.phase }, { on := 14, ground := Ground.phase }, { on := 15, ground := Ground.phase }], guard := none }) (v := ?v16_11) rfl (by kernel_rfl) (by kernel_rfl) (by kernel_rfl) (fun _ _ _ h => h) (Or.inl ⟨by rfl, ?y16_11⟩) (by assumption) ?r16_11
        case y16_11 => intro w hSw; (try dsimp only at hSw); go_simp; try with_reducible rfl
        try simp only [Act.put, List.setIfInBounds_toArray, List.set_cons_zero, List.set_cons_succ]
        refine wpAnyH_done (by kernel_rfl) ?_ _
        refine NoPanic.normal ?_
        generalize World.setCells _ GB 0 (enc8 y) = wz at hHeld ⊢
        refine KEY GA GB x y wz ?_
        obtain ⟨⟨⟨⟨⟨⟨a1, a2, a3⟩, a4⟩, b1⟩, c1⟩, d1⟩, e1⟩ := hHeld
        first
          | exact ⟨⟨hx32, hy32, hxc⟩, ⟨b1.2, c1.2.1⟩, a1, a2, a3, d1, e1⟩
          | exact ⟨⟨hx32, hy32, hxc⟩, ⟨c1.2.1, b1.2⟩, a1, a2, a3, d1, e1⟩
    ·
      go_simp
      try clear hOld
      try clear hPre
      have hOld := hHeld
      refine hK.out _ _ ?_ (fun hHeld => ?_)
      · (try dsimp only); (go_split_ands; (repeat' apply And.intro) <;> first | assumption | exact Mine.call (by assumption) (by assumption) | exact Mine.alloc (by assumption) _ | exact Mine.setCells (by assumption) _ _ _ (by omega) | exact Mine.callN (by assumption) (by assumption) (by omega) | exact Row.belowN (by assumption) (by assumption) (by omega) | exact there_belowN (by assumption) (by assumption) (by omega) | exact rangeAt_below (by assumption) (by assumption) | exact World.rangeAt_alloc (by assumption) _ | exact World.rangeAt_setCells_apart (by assumption) _ _ _ (Or.inl (by omega)) | exact there_below (by assumption) (by assumption) | exact World.there_alloc (by assumption) _ | exact World.there_setCells (by assumption) _ _ _ | exact Row.belowS (by assumption) (by assumption) | exact Row.alloc (by assumption) _ | exact Row.setCells (by assumption) _ _ (by omega) | exact HS.below (by assumption) (by assumption) | exact SB.below (by assumption) (by assumption) | exact HS.alloc (by assumption) _ | exact Box.call (by assumption) (by assumption) | exact Box.alloc (by assumption) _ | exact Box.put (by assumption) _ (by assumption) | exact cell_below (by assumption) (by assumption) | exact Lib.cell?_alloc_some _ (by assumption))
      clear hK K
      try simp only [Act.put, List.setIfInBounds_toArray, List.set_cons_zero, List.set_cons_succ]
      obtain ⟨GA, hGA⟩ : ∃ B, w1.heap.size = B := ⟨_, rfl⟩
      try rw [hGA]
      refine wpAnyH_with (E := fun w' => w'.there GA 0 32 ∧ A + 3 ≤ GA) (by (try dsimp only); refine ⟨?_, ?_⟩ <;> rw [← hGA] <;> first | exact new_there _ | exact (World.there_drew _ _ _ _).2 (new_there _) | assumption | (first | omega | exact new_there1 _ _ | exact (World.there_drew _ _ _ _).2 (new_there1 _ _) | exact Nat.ne_of_lt (there_size (n := 31) (by go_split_ands; assumption)))) hHeld (fun hHeld => ?_)
      try dsimp only at hHeld
      refine wpAnyH_ready (rs := [7, 13]) (by kernel_rfl) (by simp) (AllReadyH.cons (o := { dst := some 62, op := Op.call { callee := Callee.value (Operand.func 57), args := #[Operand.tmp 55, Operand.tmp 56, Operand.tmp 57, Operand.tmp 58, Operand.tmp 61], argTypes := #[3, 3, 4, 24, 29] }, type := 83, pos := "ref.go:127", after := #[{ on := 0, ground := Ground.data }, { on := 1, ground := Ground.data }, { on := 2, ground := Ground.data }, { on := 3, ground := Ground.data }, { on := 6, ground := Ground.data }], guard := none }) rfl (fun K hK => ?_) (AllReadyH.cons (o := { dst := some 16, op := Op.alloc 24, type := 0, pos := "ref.go:127", after := #[], guard := none }) rfl (fun K hK => ?_) (AllReadyH.nil)))
      ·
        go_simp
        refine (HUP.out _ (by rw [hA]; go_split_ands; exact Mine.bel (by assumption))).mono ?_; rintro e w2 ⟨x, y, rfl, hx32, hy32, hxc, hb⟩; have hAG0 : A + 3 ≤ w2.heap.size := Nat.le_trans (by go_split_ands; exact there_size (by assumption)) hb.size; have ix := info32 x hx32; have fx := enc8_one x; have lx : (enc8 x).length = 32 := (by rw [enc8_len, hx32]); have iy := info32 y hy32; have fy := enc8_one y; have ly : (enc8 y).length = 32 := (by rw [enc8_len, hy32])
        go_wp2_with fail
        refine hK.out _ _ ?_ (fun hHeld => ?_)
        · (try dsimp only); (go_split_ands; (repeat' apply And.intro) <;> first | assumption | exact Mine.call (by assumption) (by assumption) | exact Mine.alloc (by assumption) _ | exact Mine.setCells (by assumption) _ _ _ (by omega) | exact Mine.callN (by assumption) (by assumption) (by omega) | exact Row.belowN (by assumption) (by assumption) (by omega) | exact there_belowN (by assumption) (by assumption) (by omega) | exact rangeAt_below (by assumption) (by assumption) | exact World.rangeAt_alloc (by assumption) _ | exact World.rangeAt_setCells_apart (by assumption) _ _ _ (Or.inl (by omega)) | exact there_below (by assumption) (by assumption) | exact World.there_alloc (by assumption) _ | exact World.there_setCells (by assumption) _ _ _ | exact Row.belowS (by assumption) (by assumption) | exact Row.alloc (by assumption) _ | exact Row.setCells (by assumption) _ _ (by omega) | exact HS.below (by assumption) (by assumption) | exact SB.below (by assumption) (by assumption) | exact HS.alloc (by assumption) _ | exact Box.call (by assumption) (by assumption) | exact Box.alloc (by assumption) _ | exact Box.put (by assumption) _ (by assumption) | exact cell_below (by assumption) (by assumption) | exact Lib.cell?_alloc_some _ (by assumption))
        clear hK K
        try simp only [Act.put, List.setIfInBounds_toArray, List.set_cons_zero, List.set_cons_succ]
        refine wpAnyH_take (i := 8) (oi := { dst := some 54, op := Op.move (Operand.tmp 62), type := 83, pos := "ref.go:127", after := #[{ on := 7, ground := Ground.data }], guard := none }) (v := ?v8_12) rfl (by kernel_rfl) (by kernel_rfl) (by kernel_rfl) (fun _ _ _ h => h) (Or.inl ⟨by rfl, ?y8_12⟩) (by assumption) ?r8_12
        case y8_12 => intro w hSw; (try dsimp only at hSw); go_simp; try with_reducible rfl
        try simp only [Act.put, List.setIfInBounds_toArray, List.set_cons_zero, List.set_cons_succ]
        refine wpAnyH_take (i := 9) (oi := { dst := some 63, op := Op.extract (Operand.tmp 54) 0, type := 24, pos := "ref.go:127", after := #[{ on := 8, ground := Ground.data }], guard := none }) (v := ?v9_13) rfl (by kernel_rfl) (by kernel_rfl) (by kernel_rfl) (fun _ _ _ h => h) (Or.inl ⟨by rfl, ?y9_13⟩) (by assumption) ?r9_13
        case y9_13 => intro w hSw; (try dsimp only at hSw); go_simp; try with_reducible rfl
        try simp only [Act.put, List.setIfInBounds_toArray, List.set_cons_zero, List.set_cons_succ]
        refine wpAnyH_take (i := 10) (oi := { dst := some 64, op := Op.extract (Operand.tmp 54) 1, type := 24, pos := "ref.go:127", after := #[{ on := 8, ground := Ground.data }, { on := 14, ground := Ground.gcOnly Departure.lateStores }], guard := none }) (v := ?v10_14) rfl (by kernel_rfl) (by kernel_rfl) (by kernel_rfl) (fun _ _ _ h => h) (Or.inl ⟨by rfl, ?y10_14⟩) (by assumption) ?r10_14
        case y10_14 => intro w hSw; (try dsimp only at hSw); go_simp; try with_reducible rfl
        try simp only [Act.put, List.setIfInBounds_toArray, List.set_cons_zero, List.set_cons_succ]
        refine wpAnyH_take (i := 11) (oi := { dst := some 65, op := Op.extract (Operand.tmp 54) 2, type := 4, pos := "ref.go:127", after := #[{ on := 8, ground := Ground.data }, { on := 15, ground := Ground.gcOnly Departure.lateStores }], guard := none }) (v := ?v11_15) rfl (by kernel_rfl) (by kernel_rfl) (by kernel_rfl) (fun _ _ _ h => h) (Or.inl ⟨by rfl, ?y11_15⟩) (by assumption) ?r11_15
        case y11_15 => intro w hSw; (try dsimp only at hSw); go_simp; try with_reducible rfl
        try simp only [Act.put, List.setIfInBounds_toArray, List.set_cons_zero, List.set_cons_succ]
        refine wpAnyH_ready (rs := [13]) (by kernel_rfl) (by simp) (AllReadyH.cons (o := { dst := some 16, op := Op.alloc 24, type := 0, pos := "ref.go:127", after := #[], guard := none }) rfl (fun K hK => ?_) (AllReadyH.nil))
        go_simp
        try clear hOld
        try clear hPre
        have hOld := hHeld
        refine hK.out _ _ ?_ (fun hHeld => ?_)
        · (try dsimp only); (go_split_ands; (repeat' apply And.intro) <;> first | assumption | exact Mine.call (by assumption) (by assumption) | exact Mine.alloc (by assumption) _ | exact Mine.setCells (by assumption) _ _ _ (by omega) | exact Mine.callN (by assumption) (by assumption) (by omega) | exact Row.belowN (by assumption) (by assumption) (by omega) | exact there_belowN (by assumption) (by assumption) (by omega) | exact rangeAt_below (by assumption) (by assumption) | exact World.rangeAt_alloc (by assumption) _ | exact World.rangeAt_setCells_apart (by assumption) _ _ _ (Or.inl (by omega)) | exact there_below (by assumption) (by assumption) | exact World.there_alloc (by assumption) _ | exact World.there_setCells (by assumption) _ _ _ | exact Row.belowS (by assumption) (by assumption) | exact Row.alloc (by assumption) _ | exact Row.setCells (by assumption) _ _ (by omega) | exact HS.below (by assumption) (by assumption) | exact SB.below (by assumption) (by assumption) | exact HS.alloc (by assumption) _ | exact Box.call (by assumption) (by assumption) | exact Box.alloc (by assumption) _ | exact Box.put (by assumption) _ (by assumption) | exact cell_below (by assumption) (by assumption) | exact Lib.cell?_alloc_some _ (by assumption))
        clear hK K
        try simp only [Act.put, List.setIfInBounds_toArray, List.set_cons_zero, List.set_cons_succ]
        obtain ⟨GB, hGB⟩ : ∃ B, w2.heap.size = B := ⟨_, rfl⟩
        try rw [hGB]
        refine wpAnyH_with (E := fun w' => w'.there GB 0 32 ∧ A + 3 ≤ GB ∧ GA ≠ GB) (by (try dsimp only); refine ⟨?_, ?_, ?_⟩ <;> rw [← hGB] <;> first | exact new_there _ | exact (World.there_drew _ _ _ _).2 (new_there _) | assumption | (first | omega | exact new_there1 _ _ | exact (World.there_drew _ _ _ _).2 (new_there1 _ _) | exact Nat.ne_of_lt (there_size (n := 31) (by go_split_ands; assumption)))) hHeld (fun hHeld => ?_)
        try dsimp only at hHeld
        try clear hOld
        try clear hPre
        have hPre := hHeld
        refine wpAnyH_ready (rs := [14]) (by kernel_rfl) (by simp) (AllReadyH.cons (o := { dst := none, op := Op.store 24 (Operand.tmp 15) (Operand.tmp 63), type := 0, pos := "ref.go:127", after := #[{ on := 12, ground := Ground.data }, { on := 9, ground := Ground.data }, { on := 7, ground := Ground.chain }, { on := 0, ground := Ground.phase }, { on := 1, ground := Ground.phase }, { on := 2, ground := Ground.phase }, { on := 3, ground := Ground.phase }, { on := 4, ground := Ground.phase }, { on := 5, ground := Ground.phase }, { on := 6, ground := Ground.phase }, { on := 7, ground := Ground.phase }, { on := 8, ground := Ground.phase }, { on := 9, ground := Ground.phase }, { on := 10, ground := Ground.textOnly Departure.lateStores }, { on := 11, ground := Ground.textOnly Departure.lateStores }, { on := 12, ground := Ground.phase }, { on := 13, ground := Ground.phase }], guard := none }) rfl (fun K hK => ?_) AllReadyH.nil)
        rw [if_pos (by rfl)]
        refine wp_store_mid _ _ _ rfl _ _ (List.toArray _) rfl rfl (by go_split_ands; first | assumption | (simp only [List.size_toArray, *] <;> assumption)) (by first | assumption | (simp only [List.size_toArray] <;> assumption) | (simp only [List.size_toArray, *]; done)) (all_oneCell_toArray (by assumption)) ?_
        simp only [Act.put, List.setIfInBounds_toArray, List.set_cons_zero, List.set_cons_succ, List.toList_toArray]
        refine hK.out _ _ ?_ (fun hHeld => ?_)
        · (try dsimp only); (go_split_ands; (repeat' apply And.intro) <;> first | assumption | exact Mine.call (by assumption) (by assumption) | exact Mine.alloc (by assumption) _ | exact Mine.setCells (by assumption) _ _ _ (by omega) | exact Mine.callN (by assumption) (by assumption) (by omega) | exact Row.belowN (by assumption) (by assumption) (by omega) | exact there_belowN (by assumption) (by assumption) (by omega) | exact rangeAt_below (by assumption) (by assumption) | exact World.rangeAt_alloc (by assumption) _ | exact World.rangeAt_setCells_apart (by assumption) _ _ _ (Or.inl (by omega)) | exact there_below (by assumption) (by assumption) | exact World.there_alloc (by assumption) _ | exact World.there_setCells (by assumption) _ _ _ | exact Row.belowS (by assumption) (by assumption) | exact Row.alloc (by assumption) _ | exact Row.setCells (by assumption) _ _ (by omega) | exact HS.below (by assumption) (by assumption) | exact SB.below (by assumption) (by assumption) | exact HS.alloc (by assumption) _ | exact Box.call (by assumption) (by assumption) | exact Box.alloc (by assumption) _ | exact Box.put (by assumption) _ (by assumption) | exact cell_below (by assumption) (by assumption) | exact Lib.cell?_alloc_some _ (by assumption))
        clear hK K
        refine wpAnyH_with (E := fun w' => (w'.rangeAt GA 0 (enc8 x))) (by (try dsimp only); exact World.rangeAt_setCells_same _ GA 0 (enc8 x) (by rw [lx]; go_split_ands; assumption)) hHeld (fun hHeld => ?_)
        try dsimp only at hHeld
        try clear hOld
        try clear hPre
        have hPre := hHeld
        refine wpAnyH_ready (rs := [15]) (by kernel_rfl) (by simp) (AllReadyH.cons (o := { dst := none, op := Op.store 24 (Operand.tmp 16) (Operand.tmp 64), type := 0, pos := "ref.go:127", after := #[{ on := 13, ground := Ground.data }, { on := 10, ground := Ground.data }, { on := 14, ground := Ground.chain }, { on := 0, ground := Ground.phase }, { on := 1, ground := Ground.phase }, { on := 2, ground := Ground.phase }, { on := 3, ground := Ground.phase }, { on := 4, ground := Ground.phase }, { on := 5, ground := Ground.phase }, { on := 6, ground := Ground.phase }, { on := 7, ground := Ground.phase }, { on := 8, ground := Ground.phase }, { on := 9, ground := Ground.phase }, { on := 10, ground := Ground.phase }, { on := 11, ground := Ground.textOnly Departure.lateStores }, { on := 12, ground := Ground.phase }, { on := 13, ground := Ground.phase }, { on := 14, ground := Ground.phase }], guard := none }) rfl (fun K hK => ?_) AllReadyH.nil)
        rw [if_pos (by rfl)]
        refine wp_store_mid _ _ _ rfl _ _ (List.toArray _) rfl rfl (by go_split_ands; first | assumption | (simp only [List.size_toArray, *] <;> assumption)) (by first | assumption | (simp only [List.size_toArray] <;> assumption) | (simp only [List.size_toArray, *]; done)) (all_oneCell_toArray (by assumption)) ?_
        simp only [Act.put, List.setIfInBounds_toArray, List.set_cons_zero, List.set_cons_succ, List.toList_toArray]
        refine hK.out _ _ ?_ (fun hHeld => ?_)
        · (try dsimp only); (go_split_ands; (repeat' apply And.intro) <;> first | assumption | exact Mine.call (by assumption) (by assumption) | exact Mine.alloc (by assumption) _ | exact Mine.setCells (by assumption) _ _ _ (by omega) | exact Mine.callN (by assumption) (by assumption) (by omega) | exact Row.belowN (by assumption) (by assumption) (by omega) | exact there_belowN (by assumption) (by assumption) (by omega) | exact rangeAt_below (by assumption) (by assumption) | exact World.rangeAt_alloc (by assumption) _ | exact World.rangeAt_setCells_apart (by assumption) _ _ _ (Or.inl (by omega)) | exact there_below (by assumption) (by assumption) | exact World.there_alloc (by assumption) _ | exact World.there_setCells (by assumption) _ _ _ | exact Row.belowS (by assumption) (by assumption) | exact Row.alloc (by assumption) _ | exact Row.setCells (by assumption) _ _ (by omega) | exact HS.below (by assumption) (by assumption) | exact SB.below (by assumption) (by assumption) | exact HS.alloc (by assumption) _ | exact Box.call (by assumption) (by assumption) | exact Box.alloc (by assumption) _ | exact Box.put (by assumption) _ (by assumption) | exact cell_below (by assumption) (by assumption) | exact Lib.cell?_alloc_some _ (by assumption))
        clear hK K
        refine wpAnyH_with (E := fun w' => (w'.rangeAt GB 0 (enc8 y))) (by (try dsimp only); exact World.rangeAt_setCells_same _ GB 0 (enc8 y) (by rw [ly]; go_split_ands; assumption)) hHeld (fun hHeld => ?_)
        try dsimp only at hHeld
        refine wpAnyH_take (i := 16) (oi := { dst := some 17, op := Op.assign (Operand.tmp 65), type := 4, pos := "ref.go:127", after := #[{ on := 11, ground := Ground.data }, { on := 15, ground := Ground.chain }, { on := 0, ground := Ground.phase }, { on := 1, ground := Ground.phase }, { on := 2, ground := Ground.phase }, { on := 3, ground := Ground.phase }, { on := 4, ground := Ground.phase }, { on := 5, ground := Ground.phase }, { on := 6, ground := Ground.phase }, { on := 7, ground := Ground.phase }, { on := 8, ground := Ground.phase }, { on := 9, ground := Ground.phase }, { on := 10, ground := Ground.phase }, { on := 11, ground := Ground.phase }, { on := 12, ground := Ground.phase }, { on := 13, ground := Ground.phase }, { on := 14, ground := Ground.phase }, { on := 15, ground := Ground.phase }], guard := none }) (v := ?v16_16) rfl (by kernel_rfl) (by kernel_rfl) (by kernel_rfl) (fun _ _ _ h => h) (Or.inl ⟨by rfl, ?y16_16⟩) (by assumption) ?r16_16
        case y16_16 => intro w hSw; (try dsimp only at hSw); go_simp; try with_reducible rfl
        try simp only [Act.put, List.setIfInBounds_toArray, List.set_cons_zero, List.set_cons_succ]
        refine wpAnyH_done (by kernel_rfl) ?_ _
        refine NoPanic.normal ?_
        generalize World.setCells _ GB 0 (enc8 y) = wz at hHeld ⊢
        refine KEY GA GB x y wz ?_
        obtain ⟨⟨⟨⟨⟨⟨a1, a2, a3⟩, a4⟩, b1⟩, c1⟩, d1⟩, e1⟩ := hHeld
        first
          | exact ⟨⟨hx32, hy32, hxc⟩, ⟨b1.2, c1.2.1⟩, a1, a2, a3, d1, e1⟩
          | exact ⟨⟨hx32, hy32, hxc⟩, ⟨c1.2.1, b1.2⟩, a1, a2, a3, d1, e1⟩
      ·
        go_simp
        try clear hOld
        try clear hPre
        have hOld := hHeld
        refine hK.out _ _ ?_ (fun hHeld => ?_)
        · (try dsimp only); (go_split_ands; (repeat' apply And.intro) <;> first | assumption | exact Mine.call (by assumption) (by assumption) | exact Mine.alloc (by assumption) _ | exact Mine.setCells (by assumption) _ _ _ (by omega) | exact Mine.callN (by assumption) (by assumption) (by omega) | exact Row.belowN (by assumption) (by assumption) (by omega) | exact there_belowN (by assumption) (by assumption) (by omega) | exact rangeAt_below (by assumption) (by assumption) | exact World.rangeAt_alloc (by assumption) _ | exact World.rangeAt_setCells_apart (by assumption) _ _ _ (Or.inl (by omega)) | exact there_below (by assumption) (by assumption) | exact World.there_alloc (by assumption) _ | exact World.there_setCells (by assumption) _ _ _ | exact Row.belowS (by assumption) (by assumption) | exact Row.alloc (by assumption) _ | exact Row.setCells (by assumption) _ _ (by omega) | exact HS.below (by assumption) (by assumption) | exact SB.below (by assumption) (by assumption) | exact HS.alloc (by assumption) _ | exact Box.call (by assumption) (by assumption) | exact Box.alloc (by assumption) _ | exact Box.put (by assumption) _ (by assumption) | exact cell_below (by assumption) (by assumption) | exact Lib.cell?_alloc_some _ (by assumption))
        clear hK K
        try simp only [Act.put, List.setIfInBounds_toArray, List.set_cons_zero, List.set_cons_succ]
        obtain ⟨GB, hGB⟩ : ∃ B, GA + 1 = B := ⟨_, rfl⟩
        try rw [hGB]
        refine wpAnyH_with (E := fun w' => w'.there GB 0 32 ∧ A + 3 ≤ GB ∧ GA ≠ GB) (by (try dsimp only); refine ⟨?_, ?_, ?_⟩ <;> rw [← hGB, ← hGA] <;> first | exact new_there _ | exact (World.there_drew _ _ _ _).2 (new_there _) | assumption | (first | omega | exact new_there1 _ _ | exact (World.there_drew _ _ _ _).2 (new_there1 _ _) | exact Nat.ne_of_lt (there_size (n := 31) (by go_split_ands; assumption)))) hHeld (fun hHeld => ?_)
        try dsimp only at hHeld
        refine wpAnyH_ready (rs := [7]) (by kernel_rfl) (by simp) (AllReadyH.cons (o := { dst := some 62, op := Op.call { callee := Callee.value (Operand.func 57), args := #[Operand.tmp 55, Operand.tmp 56, Operand.tmp 57, Operand.tmp 58, Operand.tmp 61], argTypes := #[3, 3, 4, 24, 29] }, type := 83, pos := "ref.go:127", after := #[{ on := 0, ground := Ground.data }, { on := 1, ground := Ground.data }, { on := 2, ground := Ground.data }, { on := 3, ground := Ground.data }, { on := 6, ground := Ground.data }], guard := none }) rfl (fun K hK => ?_) AllReadyH.nil)
        go_simp
        refine (HUP.out _ (by rw [hA]; go_split_ands; exact Mine.bel (by assumption))).mono ?_; rintro e w2 ⟨x, y, rfl, hx32, hy32, hxc, hb⟩; have hAG0 : A + 3 ≤ w2.heap.size := Nat.le_trans (by go_split_ands; exact there_size (by assumption)) hb.size; have ix := info32 x hx32; have fx := enc8_one x; have lx : (enc8 x).length = 32 := (by rw [enc8_len, hx32]); have iy := info32 y hy32; have fy := enc8_one y; have ly : (enc8 y).length = 32 := (by rw [enc8_len, hy32])
        go_wp2_with fail
        refine hK.out _ _ ?_ (fun hHeld => ?_)
        · (try dsimp only); (go_split_ands; (repeat' apply And.intro) <;> first | assumption | exact Mine.call (by assumption) (by assumption) | exact Mine.alloc (by assumption) _ | exact Mine.setCells (by assumption) _ _ _ (by omega) | exact Mine.callN (by assumption) (by assumption) (by omega) | exact Row.belowN (by assumption) (by assumption) (by omega) | exact there_belowN (by assumption) (by assumption) (by omega) | exact rangeAt_below (by assumption) (by assumption) | exact World.rangeAt_alloc (by assumption) _ | exact World.rangeAt_setCells_apart (by assumption) _ _ _ (Or.inl (by omega)) | exact there_below (by assumption) (by assumption) | exact World.there_alloc (by assumption) _ | exact World.there_setCells (by assumption) _ _ _ | exact Row.belowS (by assumption) (by assumption) | exact Row.alloc (by assumption) _ | exact Row.setCells (by assumption) _ _ (by omega) | exact HS.below (by assumption) (by assumption) | exact SB.below (by assumption) (by assumption) | exact HS.alloc (by assumption) _ | exact Box.call (by assumption) (by assumption) | exact Box.alloc (by assumption) _ | exact Box.put (by assumption) _ (by assumption) | exact cell_below (by assumption) (by assumption) | exact Lib.cell?_alloc_some _ (by assumption))
        clear hK K
        try simp only [Act.put, List.setIfInBounds_toArray, List.set_cons_zero, List.set_cons_succ]
        refine wpAnyH_take (i := 8) (oi := { dst := some 54, op := Op.move (Operand.tmp 62), type := 83, pos := "ref.go:127", after := #[{ on := 7, ground := Ground.data }], guard := none }) (v := ?v8_17) rfl (by kernel_rfl) (by kernel_rfl) (by kernel_rfl) (fun _ _ _ h => h) (Or.inl ⟨by rfl, ?y8_17⟩) (by assumption) ?r8_17
        case y8_17 => intro w hSw; (try dsimp only at hSw); go_simp; try with_reducible rfl
        try simp only [Act.put, List.setIfInBounds_toArray, List.set_cons_zero, List.set_cons_succ]
        refine wpAnyH_take (i := 9) (oi := { dst := some 63, op := Op.extract (Operand.tmp 54) 0, type := 24, pos := "ref.go:127", after := #[{ on := 8, ground := Ground.data }], guard := none }) (v := ?v9_18) rfl (by kernel_rfl) (by kernel_rfl) (by kernel_rfl) (fun _ _ _ h => h) (Or.inl ⟨by rfl, ?y9_18⟩) (by assumption) ?r9_18
        case y9_18 => intro w hSw; (try dsimp only at hSw); go_simp; try with_reducible rfl
        try simp only [Act.put, List.setIfInBounds_toArray, List.set_cons_zero, List.set_cons_succ]
        refine wpAnyH_take (i := 10) (oi := { dst := some 64, op := Op.extract (Operand.tmp 54) 1, type := 24, pos := "ref.go:127", after := #[{ on := 8, ground := Ground.data }, { on := 14, ground := Ground.gcOnly Departure.lateStores }], guard := none }) (v := ?v10_19) rfl (by kernel_rfl) (by kernel_rfl) (by kernel_rfl) (fun _ _ _ h => h) (Or.inl ⟨by rfl, ?y10_19⟩) (by assumption) ?r10_19
        case y10_19 => intro w hSw; (try dsimp only at hSw); go_simp; try with_reducible rfl
        try simp only [Act.put, List.setIfInBounds_toArray, List.set_cons_zero, List.set_cons_succ]
        refine wpAnyH_take (i := 11) (oi := { dst := some 65, op := Op.extract (Operand.tmp 54) 2, type := 4, pos := "ref.go:127", after := #[{ on := 8, ground := Ground.data }, { on := 15, ground := Ground.gcOnly Departure.lateStores }], guard := none }) (v := ?v11_20) rfl (by kernel_rfl) (by kernel_rfl) (by kernel_rfl) (fun _ _ _ h => h) (Or.inl ⟨by rfl, ?y11_20⟩) (by assumption) ?r11_20
        case y11_20 => intro w hSw; (try dsimp only at hSw); go_simp; try with_reducible rfl
        try simp only [Act.put, List.setIfInBounds_toArray, List.set_cons_zero, List.set_cons_succ]
        try clear hOld
        try clear hPre
        have hPre := hHeld
        refine wpAnyH_ready (rs := [14]) (by kernel_rfl) (by simp) (AllReadyH.cons (o := { dst := none, op := Op.store 24 (Operand.tmp 15) (Operand.tmp 63), type := 0, pos := "ref.go:127", after := #[{ on := 12, ground := Ground.data }, { on := 9, ground := Ground.data }, { on := 7, ground := Ground.chain }, { on := 0, ground := Ground.phase }, { on := 1, ground := Ground.phase }, { on := 2, ground := Ground.phase }, { on := 3, ground := Ground.phase }, { on := 4, ground := Ground.phase }, { on := 5, ground := Ground.phase }, { on := 6, ground := Ground.phase }, { on := 7, ground := Ground.phase }, { on := 8, ground := Ground.phase }, { on := 9, ground := Ground.phase }, { on := 10, ground := Ground.textOnly Departure.lateStores }, { on := 11, ground := Ground.textOnly Departure.lateStores }, { on := 12, ground := Ground.phase }, { on := 13, ground := Ground.phase }], guard := none }) rfl (fun K hK => ?_) AllReadyH.nil)
        rw [if_pos (by rfl)]
        refine wp_store_mid _ _ _ rfl _ _ (List.toArray _) rfl rfl (by go_split_ands; first | assumption | (simp only [List.size_toArray, *] <;> assumption)) (by first | assumption | (simp only [List.size_toArray] <;> assumption) | (simp only [List.size_toArray, *]; done)) (all_oneCell_toArray (by assumption)) ?_
        simp only [Act.put, List.setIfInBounds_toArray, List.set_cons_zero, List.set_cons_succ, List.toList_toArray]
        refine hK.out _ _ ?_ (fun hHeld => ?_)
        · (try dsimp only); (go_split_ands; (repeat' apply And.intro) <;> first | assumption | exact Mine.call (by assumption) (by assumption) | exact Mine.alloc (by assumption) _ | exact Mine.setCells (by assumption) _ _ _ (by omega) | exact Mine.callN (by assumption) (by assumption) (by omega) | exact Row.belowN (by assumption) (by assumption) (by omega) | exact there_belowN (by assumption) (by assumption) (by omega) | exact rangeAt_below (by assumption) (by assumption) | exact World.rangeAt_alloc (by assumption) _ | exact World.rangeAt_setCells_apart (by assumption) _ _ _ (Or.inl (by omega)) | exact there_below (by assumption) (by assumption) | exact World.there_alloc (by assumption) _ | exact World.there_setCells (by assumption) _ _ _ | exact Row.belowS (by assumption) (by assumption) | exact Row.alloc (by assumption) _ | exact Row.setCells (by assumption) _ _ (by omega) | exact HS.below (by assumption) (by assumption) | exact SB.below (by assumption) (by assumption) | exact HS.alloc (by assumption) _ | exact Box.call (by assumption) (by assumption) | exact Box.alloc (by assumption) _ | exact Box.put (by assumption) _ (by assumption) | exact cell_below (by assumption) (by assumption) | exact Lib.cell?_alloc_some _ (by assumption))
        clear hK K
        refine wpAnyH_with (E := fun w' => (w'.rangeAt GA 0 (enc8 x))) (by (try dsimp only); exact World.rangeAt_setCells_same _ GA 0 (enc8 x) (by rw [lx]; go_split_ands; assumption)) hHeld (fun hHeld => ?_)
        try dsimp only at hHeld
        try clear hOld
        try clear hPre
        have hPre := hHeld
        refine wpAnyH_ready (rs := [15]) (by kernel_rfl) (by simp) (AllReadyH.cons (o := { dst := none, op := Op.store 24 (Operand.tmp 16) (Operand.tmp 64), type := 0, pos := "ref.go:127", after := #[{ on := 13, ground := Ground.data }, { on := 10, ground := Ground.data }, { on := 14, ground := Ground.chain }, { on := 0, ground := Ground.phase }, { on := 1, ground := Ground.phase }, { on := 2, ground := Ground.phase }, { on := 3, ground := Ground.phase }, { on := 4, ground := Ground.phase }, { on := 5, ground := Ground.phase }, { on := 6, ground := Ground.phase }, { on := 7, ground := Ground.phase }, { on := 8, ground := Ground.phase }, { on := 9, ground := Ground.phase }, { on := 10, ground := Ground.phase }, { on := 11, ground := Ground.textOnly Departure.lateStores }, { on := 12, ground := Ground.phase }, { on := 13, ground := Ground.phase }, { on := 14, ground := Ground.phase }], guard := none }) rfl (fun K hK => ?_) AllReadyH.nil)
        rw [if_pos (by rfl)]
        refine wp_store_mid _ _ _ rfl _ _ (List.toArray _) rfl rfl (by go_split_ands; first | assumption | (simp only [List.size_toArray, *] <;> assumption)) (by first | assumption | (simp only [List.size_toArray] <;> assumption) | (simp only [List.size_toArray, *]; done)) (all_oneCell_toArray (by assumption)) ?_
        simp only [Act.put, List.setIfInBounds_toArray, List.set_cons_zero, List.set_cons_succ, List.toList_toArray]
        refine hK.out _ _ ?_ (fun hHeld => ?_)
        · (try dsimp only); (go_split_ands; (repeat' apply And.intro) <;> first | assumption | exact Mine.call (by assumption) (by assumption) | exact Mine.alloc (by assumption) _ | exact Mine.setCells (by assumption) _ _ _ (by omega) | exact Mine.callN (by assumption) (by assumption) (by omega) | exact Row.belowN (by assumption) (by assumption) (by omega) | exact there_belowN (by assumption) (by assumption) (by omega) | exact rangeAt_below (by assumption) (by assumption) | exact World.rangeAt_alloc (by assumption) _ | exact World.rangeAt_setCells_apart (by assumption) _ _ _ (Or.inl (by omega)) | exact there_below (by assumption) (by assumption) | exact World.there_alloc (by assumption) _ | exact World.there_setCells (by assumption) _ _ _ | exact Row.belowS (by assumption) (by assumption) | exact Row.alloc (by assumption) _ | exact Row.setCells (by assumption) _ _ (by omega) | exact HS.below (by assumption) (by assumption) | exact SB.below (by assumption) (by assumption) | exact HS.alloc (by assumption) _ | exact Box.call (by assumption) (by assumption) | exact Box.alloc (by assumption) _ | exact Box.put (by assumption) _ (by assumption) | exact cell_below (by assumption) (by assumption) | exact Lib.cell?_alloc_some _ (by assumption))
        clear hK K
        refine wpAnyH_with (E := fun w' => (w'.rangeAt GB 0 (enc8 y))) (by (try dsimp only); exact World.rangeAt_setCells_same _ GB 0 (enc8 y) (by rw [ly]; go_split_ands; assumption)) hHeld (fun hHeld => ?_)
        try dsimp only at hHeld
        refine wpAnyH_take (i := 16) (oi := { dst := some 17, op := Op.assign (Operand.tmp 65), type := 4, pos := "ref.go:127", after := #[{ on := 11, ground := Ground.data }, { on := 15, ground := Ground.chain }, { on := 0, ground := Ground.phase }, { on := 1, ground := Ground.phase }, { on := 2, ground := Ground.phase }, { on := 3, ground := Ground.phase }, { on := 4, ground := Ground.phase }, { on := 5, ground := Ground.phase }, { on := 6, ground := Ground.phase }, { on := 7, ground := Ground.phase }, { on := 8, ground := Ground.phase }, { on := 9, ground := Ground.phase }, { on := 10, ground := Ground.phase }, { on := 11, ground := Ground.phase }, { on := 12, ground := Ground.phase }, { on := 13, ground := Ground.phase }, { on := 14, ground := Ground.phase }, { on := 15, ground := Ground.phase }], guard := none }) (v := ?v16_21) rfl (by kernel_rfl) (by kernel_rfl) (by kernel_rfl) (fun _ _ _ h => h) (Or.inl ⟨by rfl, ?y16_21⟩) (by assumption) ?r16_21
        case y16_21 => intro w hSw; (try dsimp only at hSw); go_simp; try with_reducible rfl
        try simp only [Act.put, List.setIfInBounds_toArray, List.set_cons_zero, List.set_cons_succ]
        refine wpAnyH_done (by kernel_rfl) ?_ _
        refine NoPanic.normal ?_
        generalize World.setCells _ GB 0 (enc8 y) = wz at hHeld ⊢
        refine KEY GA GB x y wz ?_
        obtain ⟨⟨⟨⟨⟨⟨a1, a2, a3⟩, a4⟩, b1⟩, c1⟩, d1⟩, e1⟩ := hHeld
        first
          | exact ⟨⟨hx32, hy32, hxc⟩, ⟨b1.2, c1.2.1⟩, a1, a2, a3, d1, e1⟩
          | exact ⟨⟨hx32, hy32, hxc⟩, ⟨c1.2.1, b1.2⟩, a1, a2, a3, d1, e1⟩
    ·
      go_simp
      try clear hOld
      try clear hPre
      have hOld := hHeld
      refine hK.out _ _ ?_ (fun hHeld => ?_)
      · (try dsimp only); (go_split_ands; (repeat' apply And.intro) <;> first | assumption | exact Mine.call (by assumption) (by assumption) | exact Mine.alloc (by assumption) _ | exact Mine.setCells (by assumption) _ _ _ (by omega) | exact Mine.callN (by assumption) (by assumption) (by omega) | exact Row.belowN (by assumption) (by assumption) (by omega) | exact there_belowN (by assumption) (by assumption) (by omega) | exact rangeAt_below (by assumption) (by assumption) | exact World.rangeAt_alloc (by assumption) _ | exact World.rangeAt_setCells_apart (by assumption) _ _ _ (Or.inl (by omega)) | exact there_below (by assumption) (by assumption) | exact World.there_alloc (by assumption) _ | exact World.there_setCells (by assumption) _ _ _ | exact Row.belowS (by assumption) (by assumption) | exact Row.alloc (by assumption) _ | exact Row.setCells (by assumption) _ _ (by omega) | exact HS.below (by assumption) (by assumption) | exact SB.below (by assumption) (by assumption) | exact HS.alloc (by assumption) _ | exact Box.call (by assumption) (by assumption) | exact Box.alloc (by assumption) _ | exact Box.put (by assumption) _ (by assumption) | exact cell_below (by assumption) (by assumption) | exact Lib.cell?_alloc_some _ (by assumption))
      clear hK K
      try simp only [Act.put, List.setIfInBounds_toArray, List.set_cons_zero, List.set_cons_succ]
      obtain ⟨GB, hGB⟩ : ∃ B, w1.heap.size = B := ⟨_, rfl⟩
      try rw [hGB]
      refine wpAnyH_with (E := fun w' => w'.there GB 0 32 ∧ A + 3 ≤ GB) (by (try dsimp only); refine ⟨?_, ?_⟩ <;> rw [← hGB] <;> first | exact new_there _ | exact (World.there_drew _ _ _ _).2 (new_there _) | assumption | (first | omega | exact new_there1 _ _ | exact (World.there_drew _ _ _ _).2 (new_there1 _ _) | exact Nat.ne_of_lt (there_size (n := 31) (by go_split_ands; assumption)))) hHeld (fun hHeld => ?_)
      try dsimp only at hHeld
      refine wpAnyH_ready (rs := [7, 12]) (by kernel_rfl) (by simp) (AllReadyH.cons (o := { dst := some 62, op := Op.call { callee := Callee.value (Operand.func 57), args := #[Operand.tmp 55, Operand.tmp 56, Operand.tmp 57, Operand.tmp 58, Operand.tmp 61], argTypes := #[3, 3, 4, 24, 29] }, type := 83, pos := "ref.go:127", after := #[{ on := 0, ground := Ground.data }, { on := 1, ground := Ground.data }, { on := 2, ground := Ground.data }, { on := 3, ground := Ground.data }, { on := 6, ground := Ground.data }], guard := none }) rfl (fun K hK => ?_) (AllReadyH.cons (o := { dst := some 15, op := Op.alloc 24, type := 0, pos := "ref.go:127", after := #[], guard := none }) rfl (fun K hK => ?_) (AllReadyH.nil)))
      ·
        go_simp
        refine (HUP.out _ (by rw [hA]; go_split_ands; exact Mine.bel (by assumption))).mono ?_; rintro e w2 ⟨x, y, rfl, hx32, hy32, hxc, hb⟩; have hAG0 : A + 3 ≤ w2.heap.size := Nat.le_trans (by go_split_ands; exact there_size (by assumption)) hb.size; have ix := info32 x hx32; have fx := enc8_one x; have lx : (enc8 x).length = 32 := (by rw [enc8_len, hx32]); have iy := info32 y hy32; have fy := enc8_one y; have ly : (enc8 y).length = 32 := (by rw [enc8_len, hy32])
        go_wp2_with fail
        refine hK.out _ _ ?_ (fun hHeld => ?_)
        · (try dsimp only); (go_split_ands; (repeat' apply And.intro) <;> first | assumption | exact Mine.call (by assumption) (by assumption) | exact Mine.alloc (by assumption) _ | exact Mine.setCells (by assumption) _ _ _ (by omega) | exact Mine.callN (by assumption) (by assumption) (by omega) | exact Row.belowN (by assumption) (by assumption) (by omega) | exact there_belowN (by assumption) (by assumption) (by omega) | exact rangeAt_below (by assumption) (by assumption) | exact World.rangeAt_alloc (by assumption) _ | exact World.rangeAt_setCells_apart (by assumption) _ _ _ (Or.inl (by omega)) | exact there_below (by assumption) (by assumption) | exact World.there_alloc (by assumption) _ | exact World.there_setCells (by assumption) _ _ _ | exact Row.belowS (by assumption) (by assumption) | exact Row.alloc (by assumption) _ | exact Row.setCells (by assumption) _ _ (by omega) | exact HS.below (by assumption) (by assumption) | exact SB.below (by assumption) (by assumption) | exact HS.alloc (by assumption) _ | exact Box.call (by assumption) (by assumption) | exact Box.alloc (by assumption) _ | exact Box.put (by assumption) _ (by assumption) | exact cell_below (by assumption) (by assumption) | exact Lib.cell?_alloc_some _ (by assumption))
        clear hK K
        try simp only [Act.put, List.setIfInBounds_toArray, List.set_cons_zero, List.set_cons_succ]
        refine wpAnyH_take (i := 8) (oi := { dst := some 54, op := Op.move (Operand.tmp 62), type := 83, pos := "ref.go:127", after := #[{ on := 7, ground := Ground.data }], guard := none }) (v := ?v8_22) rfl (by kernel_rfl) (by kernel_rfl) (by kernel_rfl) (fun _ _ _ h => h) (Or.inl ⟨by rfl, ?y8_22⟩) (by assumption) ?r8_22
        case y8_22 => intro w hSw; (try dsimp only at hSw); go_simp; try with_reducible rfl
        try simp only [Act.put, List.setIfInBounds_toArray, List.set_cons_zero, List.set_cons_succ]
        refine wpAnyH_take (i := 9) (oi := { dst := some 63, op := Op.extract (Operand.tmp 54) 0, type := 24, pos := "ref.go:127", after := #[{ on := 8, ground := Ground.data }], guard := none }) (v := ?v9_23) rfl (by kernel_rfl) (by kernel_rfl) (by kernel_rfl) (fun _ _ _ h => h) (Or.inl ⟨by rfl, ?y9_23⟩) (by assumption) ?r9_23
        case y9_23 => intro w hSw; (try dsimp only at hSw); go_simp; try with_reducible rfl
        try simp only [Act.put, List.setIfInBounds_toArray, List.set_cons_zero, List.set_cons_succ]
        refine wpAnyH_take (i := 10) (oi := { dst := some 64, op := Op.extract (Operand.tmp 54) 1, type := 24, pos := "ref.go:127", after := #[{ on := 8, ground := Ground.data }, { on := 14, ground := Ground.gcOnly Departure.lateStores }], guard := none }) (v := ?v10_24) rfl (by kernel_rfl) (by kernel_rfl) (by kernel_rfl) (fun _ _ _ h => h) (Or.inl ⟨by rfl, ?y10_24⟩) (by assumption) ?r10_24
        case y10_24 => intro w hSw; (try dsimp only at hSw); go_simp; try with_reducible rfl
        try simp only [Act.put, List.setIfInBounds_toArray, List.set_cons_zero, List.set_cons_succ]
        refine wpAnyH_take (i := 11) (oi := { dst := some 65, op := Op.extract (Operand.tmp 54) 2, type := 4, pos := "ref.go:127", after := #[{ on := 8, ground := Ground.data }, { on := 15, ground := Ground.gcOnly Departure.lateStores }], guard := none }) (v := ?v11_25) rfl (by kernel_rfl) (by kernel_rfl) (by kernel_rfl) (fun _ _ _ h => h) (Or.inl ⟨by rfl, ?y11_25⟩) (by assumption) ?r11_25
        case y11_25 => intro w hSw; (try dsimp only at hSw); go_simp; try with_reducible rfl
        try simp only [Act.put, List.setIfInBounds_toArray, List.set_cons_zero, List.set_cons_succ]
        refine wpAnyH_ready (rs := [12]) (by kernel_rfl) (by simp) (AllReadyH.cons (o := { dst := some 15, op := Op.alloc 24, type := 0, pos := "ref.go:127", after := #[], guard := none }) rfl (fun K hK => ?_) (AllReadyH.nil))
        go_simp
        try clear hOld
        try clear hPre
        have hOld := hHeld
        refine hK.out _ _ ?_ (fun hHeld => ?_)
        · (try dsimp only); (go_split_ands; (repeat' apply And.intro) <;> first | assumption | exact Mine.call (by assumption) (by assumption) | exact Mine.alloc (by assumption) _ | exact Mine.setCells (by assumption) _ _ _ (by omega) | exact Mine.callN (by assumption) (by assumption) (by omega) | exact Row.belowN (by assumption) (by assumption) (by omega) | exact there_belowN (by assumption) (by assumption) (by omega) | exact rangeAt_below (by assumption) (by assumption) | exact World.rangeAt_alloc (by assumption) _ | exact World.rangeAt_setCells_apart (by assumption) _ _ _ (Or.inl (by omega)) | exact there_below (by assumption) (by assumption) | exact World.there_alloc (by assumption) _ | exact World.there_setCells (by assumption) _ _ _ | exact Row.belowS (by assumption) (by assumption) | exact Row.alloc (by assumption) _ | exact Row.setCells (by assumption) _ _ (by omega) | exact HS.below (by assumption) (by assumption) | exact SB.below (by assumption) (by assumption) | exact HS.alloc (by assumption) _ | exact Box.call (by assumption) (by assumption) | exact Box.alloc (by assumption) _ | exact Box.put (by assumption) _ (by assumption) | exact cell_below (by assumption) (by assumption) | exact Lib.cell?_alloc_some _ (by assumption))
        clear hK K
        try simp only [Act.put, List.setIfInBounds_toArray, List.set_cons_zero, List.set_cons_succ]
        obtain ⟨GA, hGA⟩ : ∃ B, w2.heap.size = B := ⟨_, rfl⟩
        try rw [hGA]
        refine wpAnyH_with (E := fun w' => w'.there GA 0 32 ∧ A + 3 ≤ GA ∧ GB ≠ GA) (by (try dsimp only); refine ⟨?_, ?_, ?_⟩ <;> rw [← hGA] <;> first | exact new_there _ | exact (World.there_drew _ _ _ _).2 (new_there _) | assumption | (first | omega | exact new_there1 _ _ | exact (World.there_drew _ _ _ _).2 (new_there1 _ _) | exact Nat.ne_of_lt (there_size (n := 31) (by go_split_ands; assumption)))) hHeld (fun hHeld => ?_)
        try dsimp only at hHeld
        try clear hOld
        try clear hPre
        have hPre := hHeld
        refine wpAnyH_ready (rs := [14]) (by kernel_rfl) (by simp) (AllReadyH.cons (o := { dst := none, op := Op.store 24 (Operand.tmp 15) (Operand.tmp 63), type := 0, pos := "ref.go:127", after := #[{ on := 12, ground := Ground.data }, { on := 9, ground := Ground.data }, { on := 7, ground := Ground.chain }, { on := 0, ground := Ground.phase }, { on := 1, ground := Ground.phase }, { on := 2, ground := Ground.phase }, { on := 3, ground := Ground.phase }, { on := 4, ground := Ground.phase }, { on := 5, ground := Ground.phase }, { on := 6, ground := Ground.phase }, { on := 7, ground := Ground.phase }, { on := 8, ground := Ground.phase }, { on := 9, ground := Ground.phase }, { on := 10, ground := Ground.textOnly Departure.lateStores }, { on := 11, ground := Ground.textOnly Departure.lateStores }, { on := 12, ground := Ground.phase }, { on := 13, ground := Ground.phase }], guard := none }) rfl (fun K hK => ?_) AllReadyH.nil)
        rw [if_pos (by rfl)]
        refine wp_store_mid _ _ _ rfl _ _ (List.toArray _) rfl rfl (by go_split_ands; first | assumption | (simp only [List.size_toArray, *] <;> assumption)) (by first | assumption | (simp only [List.size_toArray] <;> assumption) | (simp only [List.size_toArray, *]; done)) (all_oneCell_toArray (by assumption)) ?_
        simp only [Act.put, List.setIfInBounds_toArray, List.set_cons_zero, List.set_cons_succ, List.toList_toArray]
        refine hK.out _ _ ?_ (fun hHeld => ?_)
        · (try dsimp only); (go_split_ands; (repeat' apply And.intro) <;> first | assumption | exact Mine.call (by assumption) (by assumption) | exact Mine.alloc (by assumption) _ | exact Mine.setCells (by assumption) _ _ _ (by omega) | exact Mine.callN (by assumption) (by assumption) (by omega) | exact Row.belowN (by assumption) (by assumption) (by omega) | exact there_belowN (by assumption) (by assumption) (by omega) | exact rangeAt_below (by assumption) (by assumption) | exact World.rangeAt_alloc (by assumption) _ | exact World.rangeAt_setCells_apart (by assumption) _ _ _ (Or.inl (by omega)) | exact there_below (by assumption) (by assumption) | exact World.there_alloc (by assumption) _ | exact World.there_setCells (by assumption) _ _ _ | exact Row.belowS (by assumption) (by assumption) | exact Row.alloc (by assumption) _ | exact Row.setCells (by assumption) _ _ (by omega) | exact HS.below (by assumption) (by assumption) | exact SB.below (by assumption) (by assumption) | exact HS.alloc (by assumption) _ | exact Box.call (by assumption) (by assumption) | exact Box.alloc (by assumption) _ | exact Box.put (by assumption) _ (by assumption) | exact cell_below (by assumption) (by assumption) | exact Lib.cell?_alloc_some _ (by assumption))
        clear hK K
        refine wpAnyH_with (E := fun w' => (w'.rangeAt GA 0 (enc8 x))) (by (try dsimp only); exact World.rangeAt_setCells_same _ GA 0 (enc8 x) (by rw [lx]; go_split_ands; assumption)) hHeld (fun hHeld => ?_)
        try dsimp only at hHeld
        try clear hOld
        try clear hPre
        have hPre := hHeld
        refine wpAnyH_ready (rs := [15]) (by kernel_rfl) (by simp) (AllReadyH.cons (o := { dst := none, op := Op.store 24 (Operand.tmp 16) (Operand.tmp 64), type := 0, pos := "ref.go:127", after := #[{ on := 13, ground := Ground.data }, { on := 10, ground := Ground.data }, { on := 14, ground := Ground.chain }, { on := 0, ground := Ground.phase }, { on := 1, ground := Ground.phase }, { on := 2, ground := Ground.phase }, { on := 3, ground := Ground.phase }, { on := 4, ground := Ground.phase }, { on := 5, ground := Ground.phase }, { on := 6, ground := Ground.phase }, { on := 7, ground := Ground.phase }, { on := 8, ground := Ground.phase }, { on := 9, ground := Ground.phase }, { on := 10, ground := Ground.phase }, { on := 11, ground := Ground.textOnly Departure.lateStores }, { on := 12, ground := Ground.phase }, { on := 13, ground := Ground.phase }, { on := 14, ground := Ground.phase }], guard := none }) rfl (fun K hK => ?_) AllReadyH.nil)
        rw [if_pos (by rfl)]
        refine wp_store_mid _ _ _ rfl _ _ (List.toArray _) rfl rfl (by go_split_ands; first | assumption | (simp only [List.size_toArray, *] <;> assumption)) (by first | assumption | (simp only [List.size_toArray] <;> assumption) | (simp only [List.size_toArray, *]; done)) (all_oneCell_toArray (by assumption)) ?_
        simp only [Act.put, List.setIfInBounds_toArray, List.set_cons_zero, List.set_cons_succ, List.toList_toArray]
        refine hK.out _ _ ?_ (fun hHeld => ?_)
        · (try dsimp only); (go_split_ands; (repeat' apply And.intro) <;> first | assumption | exact Mine.call (by assumption) (by assumption) | exact Mine.alloc (by assumption) _ | exact Mine.setCells (by assumption) _ _ _ (by omega) | exact Mine.callN (by assumption) (by assumption) (by omega) | exact Row.belowN (by assumption) (by assumption) (by omega) | exact there_belowN (by assumption) (by assumption) (by omega) | exact rangeAt_below (by assumption) (by assumption) | exact World.rangeAt_alloc (by assumption) _ | exact World.rangeAt_setCells_apart (by assumption) _ _ _ (Or.inl (by omega)) | exact there_below (by assumption) (by assumption) | exact World.there_alloc (by assumption) _ | exact World.there_setCells (by assumption) _ _ _ | exact Row.belowS (by assumption) (by assumption) | exact Row.alloc (by assumption) _ | exact Row.setCells (by assumption) _ _ (by omega) | exact HS.below (by assumption) (by assumption) | exact SB.below (by assumption) (by assumption) | exact HS.alloc (by assumption) _ | exact Box.call (by assumption) (by assumption) | exact Box.alloc (by assumption) _ | exact Box.put (by assumption) _ (by assumption) | exact cell_below (by assumption) (by assumption) | exact Lib.cell?_alloc_some _ (by assumption))
        clear hK K
        refine wpAnyH_with (E := fun w' => (w'.rangeAt GB 0 (enc8 y))) (by (try dsimp only); exact World.rangeAt_setCells_same _ GB 0 (enc8 y) (by rw [ly]; go_split_ands; assumption)) hHeld (fun hHeld => ?_)
        try dsimp only at hHeld
        refine wpAnyH_take (i := 16) (oi := { dst := some 17, op := Op.assign (Operand.tmp 65), type := 4, pos := "ref.go:127", after := #[{ on := 11, ground := Ground.data }, { on := 15, ground := Ground.chain }, { on := 0, ground := Ground.phase }, { on := 1, ground := Ground.phase }, { on := 2, ground := Ground.phase }, { on := 3, ground := Ground.phase }, { on := 4, ground := Ground.phase }, { on := 5, ground := Ground.phase }, { on := 6, ground := Ground.phase }, { on := 7, ground := Ground.phase }, { on := 8, ground := Ground.phase }, { on := 9, ground := Ground.phase }, { on := 10, ground := Ground.phase }, { on := 11, ground := Ground.phase }, { on := 12, ground := Ground.phase }, { on := 13, ground := Ground.phase }, { on := 14, ground := Ground.phase }, { on := 15, ground := Ground.phase }], guard := none }) (v := ?v16_26) rfl (by kernel_rfl) (by kernel_rfl) (by kernel_rfl) (fun _ _ _ h => h) (Or.inl ⟨by rfl, ?y16_26⟩) (by assumption) ?r16_26
        case y16_26 => intro w hSw; (try dsimp only at hSw); go_simp; try with_reducible rfl
        try simp only [Act.put, List.setIfInBounds_toArray, List.set_cons_zero, List.set_cons_succ]
        refine wpAnyH_done (by kernel_rfl) ?_ _
        refine NoPanic.normal ?_
        generalize World.setCells _ GB 0 (enc8 y) = wz at hHeld ⊢
        refine KEY GA GB x y wz ?_
        obtain ⟨⟨⟨⟨⟨⟨a1, a2, a3⟩, a4⟩, b1⟩, c1⟩, d1⟩, e1⟩ := hHeld
        first
          | exact ⟨⟨hx32, hy32, hxc⟩, ⟨b1.2, c1.2.1⟩, a1, a2, a3, d1, e1⟩
          | exact ⟨⟨hx32, hy32, hxc⟩, ⟨c1.2.1, b1.2⟩, a1, a2, a3, d1, e1⟩
      ·
        go_simp
        try clear hOld
        try clear hPre
        have hOld := hHeld
        refine hK.out _ _ ?_ (fun hHeld => ?_)
        · (try dsimp only); (go_split_ands; (repeat' apply And.intro) <;> first | assumption | exact Mine.call (by assumption) (by assumption) | exact Mine.alloc (by assumption) _ | exact Mine.setCells (by assumption) _ _ _ (by omega) | exact Mine.callN (by assumption) (by assumption) (by omega) | exact Row.belowN (by assumption) (by assumption) (by omega) | exact there_belowN (by assumption) (by assumption) (by omega) | exact rangeAt_below (by assumption) (by assumption) | exact World.rangeAt_alloc (by assumption) _ | exact World.rangeAt_setCells_apart (by assumption) _ _ _ (Or.inl (by omega)) | exact there_below (by assumption) (by assumption) | exact World.there_alloc (by assumption) _ | exact World.there_setCells (by assumption) _ _ _ | exact Row.belowS (by assumption) (by assumption) | exact Row.alloc (by assumption) _ | exact Row.setCells (by assumption) _ _ (by omega) | exact HS.below (by assumption) (by assumption) | exact SB.below (by assumption) (by assumption) | exact HS.alloc (by assumption) _ | exact Box.call (by assumption) (by assumption) | exact Box.alloc (by assumption) _ | exact Box.put (by assumption) _ (by assumption) | exact cell_below (by assumption) (by assumption) | exact Lib.cell?_alloc_some _ (by assumption))
        clear hK K
        try simp only [Act.put, List.setIfInBounds_toArray, List.set_cons_zero, List.set_cons_succ]
        obtain ⟨GA, hGA⟩ : ∃ B, GB + 1 = B := ⟨_, rfl⟩
        try rw [hGA]
        refine wpAnyH_with (E := fun w' => w'.there GA 0 32 ∧ A + 3 ≤ GA ∧ GB ≠ GA) (by (try dsimp only); refine ⟨?_, ?_, ?_⟩ <;> rw [← hGA, ← hGB] <;> first | exact new_there _ | exact (World.there_drew _ _ _ _).2 (new_there _) | assumption | (first | omega | exact new_there1 _ _ | exact (World.there_drew _ _ _ _).2 (new_there1 _ _) | exact Nat.ne_of_lt (there_size (n := 31) (by go_split_ands; assumption)))) hHeld (fun hHeld => ?_)
        try dsimp only at hHeld
        refine wpAnyH_ready (rs := [7]) (by kernel_rfl) (by simp) (AllReadyH.cons (o := { dst := some 62, op := Op.call { callee := Callee.value (Operand.func 57), args := #[Operand.tmp 55, Operand.tmp 56, Operand.tmp 57, Operand.tmp 58, Operand.tmp 61], argTypes := #[3, 3, 4, 24, 29] }, type := 83, pos := "ref.go:127", after := #[{ on := 0, ground := Ground.data }, { on := 1, ground := Ground.data }, { on := 2, ground := Ground.data }, { on := 3, ground := Ground.data }, { on := 6, ground := Ground.data }], guard := none }) rfl (fun K hK => ?_) AllReadyH.nil)
        go_simp
        refine (HUP.out _ (by rw [hA]; go_split_ands; exact Mine.bel (by assumption))).mono ?_; rintro e w2 ⟨x, y, rfl, hx32, hy32, hxc, hb⟩; have hAG0 : A + 3 ≤ w2.heap.size := Nat.le_trans (by go_split_ands; exact there_size (by assumption)) hb.size; have ix := info32 x hx32; have fx := enc8_one x; have lx : (enc8 x).length = 32 := (by rw [enc8_len, hx32]); have iy := info32 y hy32; have fy := enc8_one y; have ly : (enc8 y).length = 32 := (by rw [enc8_len, hy32])
        go_wp2_with fail
        refine hK.out _ _ ?_ (fun hHeld => ?_)
        · (try dsimp only); (go_split_ands; (repeat' apply And.intro) <;> first | assumption | exact Mine.call (by assumption) (by assumption) | exact Mine.alloc (by assumption) _ | exact Mine.setCells (by assumption) _ _ _ (by omega) | exact Mine.callN (by assumption) (by assumption) (by omega) | exact Row.belowN (by assumption) (by assumption) (by omega) | exact there_belowN (by assumption) (by assumption) (by omega) | exact rangeAt_below (by assumption) (by assumption) | exact World.rangeAt_alloc (by assumption) _ | exact World.rangeAt_setCells_apart (by assumption) _ _ _ (Or.inl (by omega)) | exact there_below (by assumption) (by assumption) | exact World.there_alloc (by assumption) _ | exact World.there_setCells (by assumption) _ _ _ | exact Row.belowS (by assumption) (by assumption) | exact Row.alloc (by assumption) _ | exact Row.setCells (by assumption) _ _ (by omega) | exact HS.below (by assumption) (by assumption) | exact SB.below (by assumption) (by assumption) | exact HS.alloc (by assumption) _ | exact Box.call (by assumption) (by assumption) | exact Box.alloc (by assumption) _ | exact Box.put (by assumption) _ (by assumption) | exact cell_below (by assumption) (by assumption) | exact Lib.cell?_alloc_some _ (by assumption))
        clear hK K
        try simp only [Act.put, List.setIfInBounds_toArray, List.set_cons_zero, List.set_cons_succ]
        refine wpAnyH_take (i := 8) (oi := { dst := some 54, op := Op.move (Operand.tmp 62), type := 83, pos := "ref.go:127", after := #[{ on := 7, ground := Ground.data }], guard := none }) (v := ?v8_27) rfl (by kernel_rfl) (by kernel_rfl) (by kernel_rfl) (fun _ _ _ h => h) (Or.inl ⟨by rfl, ?y8_27⟩) (by assumption) ?r8_27
        case y8_27 => intro w hSw; (try dsimp only at hSw); go_simp; try with_reducible rfl
        try simp only [Act.put, List.setIfInBounds_toArray, List.set_cons_zero, List.set_cons_succ]
        refine wpAnyH_take (i := 9) (oi := { dst := some 63, op := Op.extract (Operand.tmp 54) 0, type := 24, pos := "ref.go:127", after := #[{ on := 8, ground := Ground.data }], guard := none }) (v := ?v9_28) rfl (by kernel_rfl) (by kernel_rfl) (by kernel_rfl) (fun _ _ _ h => h) (Or.inl ⟨by rfl, ?y9_28⟩) (by assumption) ?r9_28
        case y9_28 => intro w hSw; (try dsimp only at hSw); go_simp; try with_reducible rfl
        try simp only [Act.put, List.setIfInBounds_toArray, List.set_cons_zero, List.set_cons_succ]
        refine wpAnyH_take (i := 10) (oi := { dst := some 64, op := Op.extract (Operand.tmp 54) 1, type := 24, pos := "ref.go:127", after := #[{ on := 8, ground := Ground.data }, { on := 14, ground := Ground.gcOnly Departure.lateStores }], guard := none }) (v := ?v10_29) rfl (by kernel_rfl) (by kernel_rfl) (by kernel_rfl) (fun _ _ _ h => h) (Or.inl ⟨by rfl, ?y10_29⟩) (by assumption) ?r10_29
        case y10_29 => intro w hSw; (try dsimp only at hSw); go_simp; try with_reducible rfl
        try simp only [Act.put, List.setIfInBounds_toArray, List.set_cons_zero, List.set_cons_succ]
        refine wpAnyH_take (i := 11) (oi := { dst := some 65, op := Op.extract (Operand.tmp 54) 2, type := 4, pos := "ref.go:127", after := #[{ on := 8, ground := Ground.data }, { on := 15, ground := Ground.gcOnly Departure.lateStores }], guard := none }) (v := ?v11_30) rfl (by kernel_rfl) (by kernel_rfl) (by kernel_rfl) (fun _ _ _ h => h) (Or.inl ⟨by rfl, ?y11_30⟩) (by assumption) ?r11_30
        case y11_30 => intro w hSw; (try dsimp only at hSw); go_simp; try with_reducible rfl
        try simp only [Act.put, List.setIfInBounds_toArray, List.set_cons_zero, List.set_cons_succ]
        try clear hOld
        try clear hPre
        have hPre := hHeld
        refine wpAnyH_ready (rs := [14]) (by kernel_rfl) (by simp) (AllReadyH.cons (o := { dst := none, op := Op.store 24 (Operand.tmp 15) (Operand.tmp 63), type := 0, pos := "ref.go:127", after := #[{ on := 12, ground := Ground.data }, { on := 9, ground := Ground.data }, { on := 7, ground := Ground.chain }, { on := 0, ground := Ground.phase }, { on := 1, ground := Ground.phase }, { on := 2, ground := Ground.phase }, { on := 3, ground := Ground.phase }, { on := 4, ground := Ground.phase }, { on := 5, ground := Ground.phase }, { on := 6, ground := Ground.phase }, { on := 7, ground := Ground.phase }, { on := 8, ground := Ground.phase }, { on := 9, ground := Ground.phase }, { on := 10, ground := Ground.textOnly Departure.lateStores }, { on := 11, ground := Ground.textOnly Departure.lateStores }, { on := 12, ground := Ground.phase }, { on := 13, ground := Ground.phase }], guard := none }) rfl (fun K hK => ?_) AllReadyH.nil)
        rw [if_pos (by rfl)]
        refine wp_store_mid _ _ _ rfl _ _ (List.toArray _) rfl rfl (by go_split_ands; first | assumption | (simp only [List.size_toArray, *] <;> assumption)) (by first | assumption | (simp only [List.size_toArray] <;> assumption) | (simp only [List.size_toArray, *]; done)) (all_oneCell_toArray (by assumption)) ?_
        simp only [Act.put, List.setIfInBounds_toArray, List.set_cons_zero, List.set_cons_succ, List.toList_toArray]
        refine hK.out _ _ ?_ (fun hHeld => ?_)
        · (try dsimp only); (go_split_ands; (repeat' apply And.intro) <;> first | assumption | exact Mine.call (by assumption) (by assumption) | exact Mine.alloc (by assumption) _ | exact Mine.setCells (by assumption) _ _ _ (by omega) | exact Mine.callN (by assumption) (by assumption) (by omega) | exact Row.belowN (by assumption) (by assumption) (by omega) | exact there_belowN (by assumption) (by assumption) (by omega) | exact rangeAt_below (by assumption) (by assumption) | exact World.rangeAt_alloc (by assumption) _ | exact World.rangeAt_setCells_apart (by assumption) _ _ _ (Or.inl (by omega)) | exact there_below (by assumption) (by assumption) | exact World.there_alloc (by assumption) _ | exact World.there_setCells (by assumption) _ _ _ | exact Row.belowS (by assumption) (by assumption) | exact Row.alloc (by assumption) _ | exact Row.setCells (by assumption) _ _ (by omega) | exact HS.below (by assumption) (by assumption) | exact SB.below (by assumption) (by assumption) | exact HS.alloc (by assumption) _ | exact Box.call (by assumption) (by assumption) | exact Box.alloc (by assumption) _ | exact Box.put (by assumption) _ (by assumption) | exact cell_below (by assumption) (by assumption) | exact Lib.cell?_alloc_some _ (by assumption))
        clear hK K
        refine wpAnyH_with (E := fun w' => (w'.rangeAt GA 0 (enc8 x))) (by (try dsimp only); exact World.rangeAt_setCells_same _ GA 0 (enc8 x) (by rw [lx]; go_split_ands; assumption)) hHeld (fun hHeld => ?_)
        try dsimp only at hHeld
        try clear hOld
        try clear hPre
        have hPre := hHeld
        refine wpAnyH_ready (rs := [15]) (by kernel_rfl) (by simp) (AllReadyH.cons (o := { dst := none, op := Op.store 24 (Operand.tmp 16) (Operand.tmp 64), type := 0, pos := "ref.go:127", after := #[{ on := 13, ground := Ground.data }, { on := 10, ground := Ground.data }, { on := 14, ground := Ground.chain }, { on := 0, ground := Ground.phase }, { on := 1, ground := Ground.phase }, { on := 2, ground := Ground.phase }, { on := 3, ground := Ground.phase }, { on := 4, ground := Ground.phase }, { on := 5, ground := Ground.phase }, { on := 6, ground := Ground.phase }, { on := 7, ground := Ground.phase }, { on := 8, ground := Ground.phase }, { on := 9, ground := Ground.phase }, { on := 10, ground := Ground.phase }, { on := 11, ground := Ground.textOnly Departure.lateStores }, { on := 12, ground := Ground.phase }, { on := 13, ground := Ground.phase }, { on := 14, ground := Ground.phase }], guard := none }) rfl (fun K hK => ?_) AllReadyH.nil)
        rw [if_pos (by rfl)]
        refine wp_store_mid _ _ _ rfl _ _ (List.toArray _) rfl rfl (by go_split_ands; first | assumption | (simp only [List.size_toArray, *] <;> assumption)) (by first | assumption | (simp only [List.size_toArray] <;> assumption) | (simp only [List.size_toArray, *]; done)) (all_oneCell_toArray (by assumption)) ?_
        simp only [Act.put, List.setIfInBounds_toArray, List.set_cons_zero, List.set_cons_succ, List.toList_toArray]
        refine hK.out _ _ ?_ (fun hHeld => ?_)
        · (try dsimp only); (go_split_ands; (repeat' apply And.intro) <;> first | assumption | exact Mine.call (by assumption) (by assumption) | exact Mine.alloc (by assumption) _ | exact Mine.setCells (by assumption) _ _ _ (by omega) | exact Mine.callN (by assumption) (by assumption) (by omega) | exact Row.belowN (by assumption) (by assumption) (by omega) | exact there_belowN (by assumption) (by assumption) (by omega) | exact rangeAt_below (by assumption) (by assumption) | exact World.rangeAt_alloc (by assumption) _ | exact World.rangeAt_setCells_apart (by assumption) _ _ _ (Or.inl (by omega)) | exact there_below (by assumption) (by assumption) | exact World.there_alloc (by assumption) _ | exact World.there_setCells (by assumption) _ _ _ | exact Row.belowS (by assumption) (by assumption) | exact Row.alloc (by assumption) _ | exact Row.setCells (by assumption) _ _ (by omega) | exact HS.below (by assumption) (by assumption) | exact SB.below (by assumption) (by assumption) | exact HS.alloc (by assumption) _ | exact Box.call (by assumption) (by assumption) | exact Box.alloc (by assumption) _ | exact Box.put (by assumption) _ (by assumption) | exact cell_below (by assumption) (by assumption) | exact Lib.cell?_alloc_some _ (by assumption))
        clear hK K
        refine wpAnyH_with (E := fun w' => (w'.rangeAt GB 0 (enc8 y))) (by (try dsimp only); exact World.rangeAt_setCells_same _ GB 0 (enc8 y) (by rw [ly]; go_split_ands; assumption)) hHeld (fun hHeld => ?_)
        try dsimp only at hHeld
        refine wpAnyH_take (i := 16) (oi := { dst := some 17, op := Op.assign (Operand.tmp 65), type := 4, pos := "ref.go:127", after := #[{ on := 11, ground := Ground.data }, { on := 15, ground := Ground.chain }, { on := 0, ground := Ground.phase }, { on := 1, ground := Ground.phase }, { on := 2, ground := Ground.phase }, { on := 3, ground := Ground.phase }, { on := 4, ground := Ground.phase }, { on := 5, ground := Ground.phase }, { on := 6, ground := Ground.phase }, { on := 7, ground := Ground.phase }, { on := 8, ground := Ground.phase }, { on := 9, ground := Ground.phase }, { on := 10, ground := Ground.phase }, { on := 11, ground := Ground.phase }, { on := 12, ground := Ground.phase }, { on := 13, ground := Ground.phase }, { on := 14, ground := Ground.phase }, { on := 15, ground := Ground.phase }], guard := none }) (v := ?v16_31) rfl (by kernel_rfl) (by kernel_rfl) (by kernel_rfl) (fun _ _ _ h => h) (Or.inl ⟨by rfl, ?y16_31⟩) (by assumption) ?r16_31
        case y16_31 => intro w hSw; (try dsimp only at hSw); go_simp; try with_reducible rfl
        try simp only [Act.put, List.setIfInBounds_toArray, List.set_cons_zero, List.set_cons_succ]
        refine wpAnyH_done (by kernel_rfl) ?_ _
        refine NoPanic.normal ?_
        generalize World.setCells _ GB 0 (enc8 y) = wz at hHeld ⊢
        refine KEY GA GB x y wz ?_
        obtain ⟨⟨⟨⟨⟨⟨a1, a2, a3⟩, a4⟩, b1⟩, c1⟩, d1⟩, e1⟩ := hHeld
        first
          | exact ⟨⟨hx32, hy32, hxc⟩, ⟨b1.2, c1.2.1⟩, a1, a2, a3, d1, e1⟩
          | exact ⟨⟨hx32, hy32, hxc⟩, ⟨c1.2.1, b1.2⟩, a1, a2, a3, d1, e1⟩
  case key =>
   rintro GA GB x y wz ⟨⟨hx32, hy32, hxc⟩, ⟨hga, hgb⟩, hmx, ht1, ht2, hrx, hry⟩
   have ix := info32 x hx32
   have fx := enc8_one x
   have lx : (enc8 x).length = 32 := by rw [enc8_len, hx32]
   have iy := info32 y hy32
   have fy := enc8_one y
   have ly : (enc8 y).length = 32 := by rw [enc8_len, hy32]
   have hrp : wz.rangeAt g (o + l * 32) ap := rangeAt_below RP.out (by rw [hA]; exact hmx.bel)
   have hnode := fun w' => qnode_any y p hy32 HP32.out w'
   rw [HAP.out] at hnode
   have hcl := HTOP.out x y hxc
   obtain ⟨nd, hnd⟩ : ∃ nd, nodeL y p = nd := ⟨_, rfl⟩
   have hnd32 : nd.length = 32 := by rw [← hnd]; exact nodeL_length _ _
   rw [hnd] at hcl
   simp only [hnd] at hnode
   have hin := info32 nd hnd32
   have hf1 := enc8_one nd
   obtain ⟨ax, hax⟩ : ∃ ax, enc8 x = ax := ⟨_, rfl⟩
   obtain ⟨ay, hay⟩ : ∃ ay, enc8 y = ay := ⟨_, rfl⟩
   obtain ⟨an, han⟩ : ∃ an, enc8 nd = an := ⟨_, rfl⟩
   have hln : an.length = 32 := by rw [← han, enc8_len, hnd32]
   have hlx : ax.length = 32 := by rw [← hax]; exact lx
   have hfx : ∀ v ∈ ax, v.oneCell' = true := by rw [← hax]; exact fx
   rw [hax] at hrx ix
   rw [hay] at hry iy
   rw [hax, hay]
   simp only [hay, han] at hnode
   rw [han] at hin hf1
   have ip := IP.out
   have HN := Lib.hid hnode
   have HCL := Lib.hid hcl
   have han := And.intro hax han
   have HAN := Lib.hid han
   clear HUP HTOP i0 R0 TH HW HMW hnode hcl lx ly fx fy hxc
   go_wp2_with fail
   refine wp_region_noPanic ?_
   refine wp_region_held_drew (S := (fun w' => (Mine A w w' ∧ w'.there (A + 1) 0 32 ∧ w'.there (A + 1 + 1) 0 32) ∧ (w'.rangeAt GA 0 ax ∧ w'.rangeAt GB 0 ay) ∧ w'.rangeAt g (o + l * 32) ap)) (by kernel_rfl) ?_ (fun hHeld => ?_)
   · exact ⟨⟨⟨hmx.le, hmx.bel.drew⟩, (World.there_drew _ _ _ _).2 ht1, (World.there_drew _ _ _ _).2 ht2⟩, ⟨(World.rangeAt_drew _ _ _ _).2 hrx, (World.rangeAt_drew _ _ _ _).2 hry⟩, (World.rangeAt_drew _ _ _ _).2 hrp⟩
   refine wpAnyH_take (i := 2) (oi := { dst := some 68, op := Op.move (Operand.tmp 4), type := 29, pos := "ref.go:128", after := #[], guard := none }) (v := ?v2_32) rfl (by kernel_rfl) (by kernel_rfl) (by kernel_rfl) (fun _ _ _ h => h) (Or.inl ⟨by rfl, ?y2_32⟩) (by assumption) ?r2_32
   case y2_32 => intro w hSw; (try dsimp only at hSw); go_simp; try with_reducible rfl
   try simp only [Act.put, List.setIfInBounds_toArray, List.set_cons_zero, List.set_cons_succ]
   refine wpAnyH_take (i := 3) (oi := { dst := some 69, op := Op.move (Operand.tmp 14), type := 3, pos := "ref.go:128", after := #[], guard := none }) (v := ?v3_33) rfl (by kernel_rfl) (by kernel_rfl) (by kernel_rfl) (fun _ _ _ h => h) (Or.inl ⟨by rfl, ?y3_33⟩) (by assumption) ?r3_33
   case y3_33 => intro w hSw; (try dsimp only at hSw); go_simp; try with_reducible rfl
   try simp only [Act.put, List.setIfInBounds_toArray, List.set_cons_zero, List.set_cons_succ]
   refine wpAnyH_take (i := 4) (oi := { dst := some 70, op := Op.indexAddr 29 (Operand.tmp 68) (Operand.tmp 69), type := 0, pos := "ref.go:128", after := #[{ on := 2, ground := Ground.data }, { on := 3, ground := Ground.data }], guard := none }) (v := ?v4_34) rfl (by kernel_rfl) (by kernel_rfl) (by kernel_rfl) (fun _ _ _ h => h) (Or.inl ⟨by rfl, ?y4_34⟩) (by assumption) ?r4_34
   case y4_34 => intro w hSw; (try dsimp only at hSw); go_simp; try with_reducible rfl
   try simp only [Act.put, List.setIfInBounds_toArray, List.set_cons_zero, List.set_cons_succ]
   refine wpAnyH_take (i := 7) (oi := { dst := some 73, op := Op.move (Operand.tmp 17), type := 4, pos := "ref.go:128", after := #[{ on := 9, ground := Ground.gcOnly Departure.lateStores }], guard := none }) (v := ?v7_35) rfl (by kernel_rfl) (by kernel_rfl) (by kernel_rfl) (fun _ _ _ h => h) (Or.inl ⟨by rfl, ?y7_35⟩) (by assumption) ?r7_35
   case y7_35 => intro w hSw; (try dsimp only at hSw); go_simp; try with_reducible rfl
   try simp only [Act.put, List.setIfInBounds_toArray, List.set_cons_zero, List.set_cons_succ]
   refine wpAnyH_take (i := 0) (oi := { dst := some 66, op := Op.load 24 (Operand.tmp 15), type := 24, pos := "ref.go:128", after := #[], guard := none }) (v := _) rfl (by kernel_rfl) (by kernel_rfl) (by kernel_rfl) (fun _ _ _ h => h) (yieldsIf_load_mid (by rfl) _ _ rfl _ _ rfl _ _ (by intro w hSw; (try dsimp only at hSw); go_split_ands; assumption) (by assumption) rfl (by first | assumption | (simp only [*]; done))) (by assumption) ?_
   try simp only [Act.put, List.setIfInBounds_toArray, List.set_cons_zero, List.set_cons_succ]
   refine wpAnyH_take (i := 1) (oi := { dst := some 67, op := Op.load 24 (Operand.tmp 16), type := 24, pos := "ref.go:128", after := #[], guard := none }) (v := _) rfl (by kernel_rfl) (by kernel_rfl) (by kernel_rfl) (fun _ _ _ h => h) (yieldsIf_load_mid (by rfl) _ _ rfl _ _ rfl _ _ (by intro w hSw; (try dsimp only at hSw); go_split_ands; assumption) (by assumption) rfl (by first | assumption | (simp only [*]; done))) (by assumption) ?_
   try simp only [Act.put, List.setIfInBounds_toArray, List.set_cons_zero, List.set_cons_succ]
   refine wpAnyH_take (i := 5) (oi := { dst := some 71, op := Op.load 24 (Operand.tmp 70), type := 24, pos := "ref.go:128", after := #[{ on := 4, ground := Ground.data }], guard := none }) (v := _) rfl (by kernel_rfl) (by kernel_rfl) (by kernel_rfl) (fun _ _ _ h => h) (yieldsIf_load_mid (by rfl) _ _ rfl _ _ rfl _ _ (by intro w hSw; (try dsimp only at hSw); go_split_ands; assumption) (by assumption) rfl (by first | assumption | (simp only [*]; done))) (by assumption) ?_
   try simp only [Act.put, List.setIfInBounds_toArray, List.set_cons_zero, List.set_cons_succ]
   refine wpAnyH_ready (rs := [6]) (by kernel_rfl) (by simp) (AllReadyH.cons (o := { dst := some 72, op := Op.call { callee := Callee.value (Operand.func 25), args := #[Operand.tmp 67, Operand.tmp 71], argTypes := #[24, 24] }, type := 24, pos := "ref.go:128", after := #[{ on := 1, ground := Ground.data }, { on := 5, ground := Ground.data }], guard := none }) rfl (fun K hK => ?_) AllReadyH.nil)
   go_simp
   refine (HN.out _).mono ?_; rintro e w4 ⟨rfl, hb4⟩
   go_wp2_with fail
   refine hK.out _ _ ?_ (fun hHeld => ?_)
   · (try dsimp only); (go_split_ands; (repeat' apply And.intro) <;> first | assumption | exact Mine.call (by assumption) (by assumption) | exact Mine.alloc (by assumption) _ | exact Mine.setCells (by assumption) _ _ _ (by omega) | exact Mine.callN (by assumption) (by assumption) (by omega) | exact Row.belowN (by assumption) (by assumption) (by omega) | exact there_belowN (by assumption) (by assumption) (by omega) | exact rangeAt_below (by assumption) (by assumption) | exact World.rangeAt_alloc (by assumption) _ | exact World.rangeAt_setCells_apart (by assumption) _ _ _ (Or.inl (by omega)) | exact there_below (by assumption) (by assumption) | exact World.there_alloc (by assumption) _ | exact World.there_setCells (by assumption) _ _ _ | exact Row.belowS (by assumption) (by assumption) | exact Row.alloc (by assumption) _ | exact Row.setCells (by assumption) _ _ (by omega) | exact HS.below (by assumption) (by assumption) | exact SB.below (by assumption) (by assumption) | exact HS.alloc (by assumption) _ | exact Box.call (by assumption) (by assumption) | exact Box.alloc (by assumption) _ | exact Box.put (by assumption) _ (by assumption) | exact cell_below (by assumption) (by assumption) | exact Lib.cell?_alloc_some _ (by assumption))
   clear hK K
   try simp only [Act.put, List.setIfInBounds_toArray, List.set_cons_zero, List.set_cons_succ]
   have hPre := hHeld
   refine wpAnyH_ready (rs := [8]) (by kernel_rfl) (by simp) (AllReadyH.cons (o := { dst := none, op := Op.store 24 (Operand.tmp 10) (Operand.tmp 66), type := 0, pos := "ref.go:128", after := #[{ on := 0, ground := Ground.data }, { on := 6, ground := Ground.chain }, { on := 0, ground := Ground.phase }, { on := 1, ground := Ground.textOnly Departure.lateStores }, { on := 2, ground := Ground.textOnly Departure.lateStores }, { on := 3, ground := Ground.textOnly Departure.lateStores }, { on := 4, ground := Ground.textOnly Departure.lateStores }, { on := 5, ground := Ground.textOnly Departure.lateStores }, { on := 6, ground := Ground.textOnly Departure.lateStoresUnsure }, { on := 7, ground := Ground.textOnly Departure.lateStores }], guard := none }) rfl (fun K hK => ?_) AllReadyH.nil)
   rw [if_pos (by rfl)]
   refine wp_store_mid _ _ _ rfl _ _ (List.toArray _) rfl rfl (by go_split_ands; first | assumption | (simp only [List.size_toArray, *] <;> assumption)) (by first | assumption | (simp only [List.size_toArray] <;> assumption) | (simp only [List.size_toArray, *]; done)) (all_oneCell_toArray (by assumption)) ?_
   simp only [Act.put, List.setIfInBounds_toArray, List.set_cons_zero, List.set_cons_succ, List.toList_toArray]
   refine hK.out _ _ ?_ (fun hHeld => ?_)
   · (try dsimp only); (go_split_ands; (repeat' apply And.intro) <;> first | assumption | exact Mine.call (by assumption) (by assumption) | exact Mine.alloc (by assumption) _ | exact Mine.setCells (by assumption) _ _ _ (by omega) | exact Mine.callN (by assumption) (by assumption) (by omega) | exact Row.belowN (by assumption) (by assumption) (by omega) | exact there_belowN (by assumption) (by assumption) (by omega) | exact rangeAt_below (by assumption) (by assumption) | exact World.rangeAt_alloc (by assumption) _ | exact World.rangeAt_setCells_apart (by assumption) _ _ _ (Or.inl (by omega)) | exact there_below (by assumption) (by assumption) | exact World.there_alloc (by assumption) _ | exact World.there_setCells (by assumption) _ _ _ | exact Row.belowS (by assumption) (by assumption) | exact Row.alloc (by assumption) _ | exact Row.setCells (by assumption) _ _ (by omega) | exact HS.below (by assumption) (by assumption) | exact SB.below (by assumption) (by assumption) | exact HS.alloc (by assumption) _ | exact Box.call (by assumption) (by assumption) | exact Box.alloc (by assumption) _ | exact Box.put (by assumption) _ (by assumption) | exact cell_below (by assumption) (by assumption) | exact Lib.cell?_alloc_some _ (by assumption))
   clear hK K
   refine wpAnyH_with (E := fun w' => (w'.rangeAt (A + 1) 0 ax)) (by (try dsimp only); exact World.rangeAt_setCells_same _ (A + 1) 0 ax (by rw [hlx]; go_split_ands; assumption)) hHeld (fun hHeld => ?_)
   try dsimp only at hHeld
   have hPre := hHeld
   refine wpAnyH_ready (rs := [9]) (by kernel_rfl) (by simp) (AllReadyH.cons (o := { dst := none, op := Op.store 24 (Operand.tmp 11) (Operand.tmp 72), type := 0, pos := "ref.go:128", after := #[{ on := 6, ground := Ground.data }, { on := 8, ground := Ground.chain }, { on := 0, ground := Ground.phase }, { on := 1, ground := Ground.phase }, { on := 2, ground := Ground.phase }, { on := 3, ground := Ground.phase }, { on := 4, ground := Ground.phase }, { on := 5, ground := Ground.phase }, { on := 6, ground := Ground.phase }, { on := 7, ground := Ground.textOnly Departure.lateStores }, { on := 8, ground := Ground.phase }], guard := none }) rfl (fun K hK => ?_) AllReadyH.nil)
   rw [if_pos (by rfl)]
   refine wp_store_mid _ _ _ rfl _ _ (List.toArray _) rfl rfl (by go_split_ands; first | assumption | (simp only [List.size_toArray, *] <;> assumption)) (by first | assumption | (simp only [List.size_toArray] <;> assumption) | (simp only [List.size_toArray, *]; done)) (all_oneCell_toArray (by assumption)) ?_
   simp only [Act.put, List.setIfInBounds_toArray, List.set_cons_zero, List.set_cons_succ, List.toList_toArray]
   refine hK.out _ _ ?_ (fun hHeld => ?_)
   · (try dsimp only); (go_split_ands; (repeat' apply And.intro) <;> first | assumption | exact Mine.call (by assumption) (by assumption) | exact Mine.alloc (by assumption) _ | exact Mine.setCells (by assumption) _ _ _ (by omega) | exact Mine.callN (by assumption) (by assumption) (by omega) | exact Row.belowN (by assumption) (by assumption) (by omega) | exact there_belowN (by assumption) (by assumption) (by omega) | exact rangeAt_below (by assumption) (by assumption) | exact World.rangeAt_alloc (by assumption) _ | exact World.rangeAt_setCells_apart (by assumption) _ _ _ (Or.inl (by omega)) | exact there_below (by assumption) (by assumption) | exact World.there_alloc (by assumption) _ | exact World.there_setCells (by assumption) _ _ _ | exact Row.belowS (by assumption) (by assumption) | exact Row.alloc (by assumption) _ | exact Row.setCells (by assumption) _ _ (by omega) | exact HS.below (by assumption) (by assumption) | exact SB.below (by assumption) (by assumption) | exact HS.alloc (by assumption) _ | exact Box.call (by assumption) (by assumption) | exact Box.alloc (by assumption) _ | exact Box.put (by assumption) _ (by assumption) | exact cell_below (by assumption) (by assumption) | exact Lib.cell?_alloc_some _ (by assumption))
   clear hK K
   refine wpAnyH_with (E := fun w' => (w'.rangeAt (A + 1 + 1) 0 an)) (by (try dsimp only); exact World.rangeAt_setCells_same _ (A + 1 + 1) 0 an (by rw [hln]; go_split_ands; assumption)) hHeld (fun hHeld => ?_)
   try dsimp only at hHeld
   refine wpAnyH_take (i := 10) (oi := { dst := some 12, op := Op.assign (Operand.tmp 73), type := 4, pos := "ref.go:128", after := #[{ on := 7, ground := Ground.data }, { on := 9, ground := Ground.chain }, { on := 0, ground := Ground.phase }, { on := 1, ground := Ground.phase }, { on := 2, ground := Ground.phase }, { on := 3, ground := Ground.phase }, { on := 4, ground := Ground.phase }, { on := 5, ground := Ground.phase }, { on := 6, ground := Ground.phase }, { on := 7, ground := Ground.phase }, { on := 8, ground := Ground.phase }, { on := 9, ground := Ground.phase }], guard := none }) (v := ?v10_36) rfl (by kernel_rfl) (by kernel_rfl) (by kernel_rfl) (fun _ _ _ h => h) (Or.inl ⟨by rfl, ?y10_36⟩) (by assumption) ?r10_36
   case y10_36 => intro w hSw; (try dsimp only at hSw); go_simp; try with_reducible rfl
   try simp only [Act.put, List.setIfInBounds_toArray, List.set_cons_zero, List.set_cons_succ]
   refine wpAnyH_done (by kernel_rfl) ?_ _
   refine NoPanic.normal ?_
   generalize World.setCells _ (A + 1 + 1) 0 an = wy at hHeld ⊢
   go_split_ands
   have hra : wy.rangeAt (A + 1) 0 ax := by assumption
   have hrb : wy.rangeAt (A + 1 + 1) 0 an := by assumption
   have hfin := Mine.bel (by assumption : Mine A w wy)
   go_wp2
   refine bodyPost_ret (v := .tuple #[.agg ax.toArray, .agg an.toArray, .bool bb]) (range_result3 hra hrb Try.results57 _ _ _ rfl rfl rfl hu ix hin) rfl ?_
   exact ⟨x, nd, by rw [HAN.out.1, HAN.out.2], hx32, hnd32, HCL.out, by rw [hA]; exact hfin⟩
end Go.Proofs.Ytkipnhhdlohnfaa

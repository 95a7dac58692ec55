/- same, apart of law06. -/
import Derived.RangeFuncNested
import Derived.RangeFuncBound
import Derived.RangeFuncCalls
import Derived.RangeFuncLeaves
import Derived.Shelf.Abstract
import Derived.Shelf.RegionOpen
import Derived.WalkKit
import Derived.OwnWalkIn
import Derived.TacticsInMore
import Derived.LoopNIn
import Derived.LoopIn
import Derived.Outline
import Derived.Lib.Hide
import Derived.Lib.SliceRun
import Derived.IntWalk
import Derived.WalkLawsBesides
import Derived.WalkSpells
import Derived.Laws.BitsAllLaws
import Derived.Lib.ConvBytes
import Derived.Maps.AppendAt
import Derived.Lib.AppendStr
import Derived.Lib.SlBytesConst
import Derived.Laws.AppendOwnNone
import Derived.Laws.OwnMore
import Derived.Laws.BytesArg
import Derived.Deep.RegionHeld3
import Derived.BigQuiet
import Derived.Deep.RegionLaw
import Derived.Deep.QuietTactic
import Derived.Lib.OthersKept
import Derived.Test.YtnepmhdnkcnnmaaProg
import Derived.Deep.DeepFit
import Derived.Test.YtnepmhdnkcnnmaaPaA
import Derived.Test.YtnepmhdnkcnnmaaSeI
set_option linter.unusedVariables false
set_option linter.unusedSimpArgs false
namespace Go.Proofs.Ytnepmhdnkcnnmaa
open Go Go.RowKit Go.Shelf

set_option maxHeartbeats 2000000 in
set_option maxRecDepth 100000 in
theorem same06_any (va vb : Value) (la lb : List (List UInt8)) (w : World) (ha : HS w va la) (hb : HS w vb lb) (hlen : la.length = lb.length) :
    Calls Try.prog 22 #[va, vb] w fun e w' => e = .returned (.bool (la == lb)) ∧ Below w.heap.size w w' := by
  obtain ⟨C, c, rfl, hc, -⟩ := ha.form
  obtain ⟨D, d, rfl, hd, -⟩ := hb.form
  have H1 := Lib.hid ha
  have H2 := Lib.hid hb
  obtain ⟨n, hn⟩ : ∃ n, la.length = n := ⟨_, rfl⟩
  have hn2 : lb.length = n := by rw [← hlen, hn]
  have HN := Lib.hid hn
  have HN2 := Lib.hid hn2
  rw [hn] at H1 hc ⊢
  rw [hn2] at H2 hd ⊢
  obtain ⟨res, hres⟩ : ∃ res, (la == lb) = res := ⟨_, rfl⟩
  have HR := Lib.hid hres
  rw [hres]
  clear ha hb hn hn2 hd hlen hres
  go_enter Try.func22, Try.ntmps22
  go_wp2
  go_loopw [8] (fun x wr => ∃ i : Nat, (x = .int .i64 (i : Int) ∧ i ≤ n) ∧ la.take i = lb.take i ∧ Below w.heap.size w wr) (fun x _ => n - (intOf x).toNat)
  case atStart => exact ⟨0, ⟨rfl, by omega⟩, by simp, Below.refl _ _⟩
  case round =>
    obtain ⟨i, ⟨rfl, hi⟩, htk, hbw⟩ := hrel
    by_cases hlt : i < n
    · have hx : la[i]? = some (la[i]'(by rw [HN.out]; exact hlt)) := List.getElem?_eq_getElem _
      have hy : lb[i]? = some (lb[i]'(by rw [HN2.out]; exact hlt)) := List.getElem?_eq_getElem _
      obtain ⟨x, hxe⟩ : ∃ x, la[i]'(by rw [HN.out]; exact hlt) = x := ⟨_, rfl⟩
      obtain ⟨y, hye⟩ : ∃ y, lb[i]'(by rw [HN2.out]; exact hlt) = y := ⟨_, rfl⟩
      rw [hxe] at hx
      rw [hye] at hy
      obtain ⟨x32, -, g1, o1, rfl, r1⟩ := (H1.out.below hbw).at_ i (by rw [HN.out]; exact hlt) x hx
      obtain ⟨y32, -, g2, o2, rfl, r2⟩ := (H2.out.below hbw).at_ i (by rw [HN2.out]; exact hlt) y hy
      have heq := fun w => run_neq_sum x y x32 y32 w
      have e1 := info32 x x32
      have e2 := info32 y y32
      have htk2 : x = y → la.take (i + 1) = lb.take (i + 1) := by
        intro hxy
        rw [List.take_add_one, List.take_add_one, htk, hx, hy, hxy]
      have hres : x ≠ y → res = false := by
        intro hxy
        rw [← HR.out]
        simp only [beq_eq_false_iff_ne, ne_eq]
        rintro rfl
        rw [hx] at hy
        exact hxy (Option.some.inj hy)
      obtain ⟨ax, hax⟩ : ∃ ax, enc8 x = ax := ⟨_, rfl⟩
      obtain ⟨ay, hay⟩ : ∃ ay, enc8 y = ay := ⟨_, rfl⟩
      rw [hax, hay] at heq
      rw [hax] at e1 r1
      rw [hay] at e2 r2
      have hu := Try.underlying23
      have HTK := Lib.hid htk2
      have HRES := Lib.hid hres
      clear hx hy hxe hye x32 y32 hax hay htk htk2 hres
      go_wp2_with fail
      by_cases hxy : x = y
      · have hbeq : (x == y) = true := by simpa using hxy
        simp only [hbeq, Bool.not_true] at heq
        refine wp_region_noPanic ?_
        refine wp_region_held_drew (S := (fun w' => w'.rangeAt g1 (o1 + i * 32) ax ∧ w'.rangeAt g2 (o2 + i * 32) ay)) (by kernel_rfl) ?_ (fun hHeld => ?_)
        · exact ⟨(World.rangeAt_drew _ _ _ _).2 r1, (World.rangeAt_drew _ _ _ _).2 r2⟩
        refine wpAnyH_take (i := 0) (oi := { dst := some 11, op := Op.move (Operand.tmp 0), type := 22, pos := "law.go:97", after := #[], guard := none }) (v := ?v0_0) rfl (by kernel_rfl) (by kernel_rfl) (by kernel_rfl) (fun _ _ _ h => h) (Or.inl ⟨by rfl, ?y0_0⟩) (by assumption) ?r0_0
        case y0_0 => intro w hSw; (try dsimp only at hSw); go_simp; try with_reducible rfl
        try simp only [Act.put, List.setIfInBounds_toArray, List.set_cons_zero, List.set_cons_succ]
        refine wpAnyH_take (i := 1) (oi := { dst := some 12, op := Op.move (Operand.tmp 5), type := 3, pos := "law.go:97", after := #[], guard := none }) (v := ?v1_1) rfl (by kernel_rfl) (by kernel_rfl) (by kernel_rfl) (fun _ _ _ h => h) (Or.inl ⟨by rfl, ?y1_1⟩) (by assumption) ?r1_1
        case y1_1 => intro w hSw; (try dsimp only at hSw); go_simp; try with_reducible rfl
        try simp only [Act.put, List.setIfInBounds_toArray, List.set_cons_zero, List.set_cons_succ]
        refine wpAnyH_take (i := 2) (oi := { dst := some 13, op := Op.indexAddr 22 (Operand.tmp 11) (Operand.tmp 12), type := 0, pos := "law.go:97", after := #[{ on := 0, ground := Ground.data }, { on := 1, ground := Ground.data }], guard := none }) (v := ?v2_2) rfl (by kernel_rfl) (by kernel_rfl) (by kernel_rfl) (fun _ _ _ h => h) (Or.inl ⟨by rfl, ?y2_2⟩) (by assumption) ?r2_2
        case y2_2 => intro w hSw; (try dsimp only at hSw); go_simp; try with_reducible rfl
        try simp only [Act.put, List.setIfInBounds_toArray, List.set_cons_zero, List.set_cons_succ]
        refine wpAnyH_take (i := 3) (oi := { dst := some 14, op := Op.load 23 (Operand.tmp 13), type := 23, pos := "law.go:97", after := #[{ on := 2, ground := Ground.data }], guard := none }) (v := _) rfl (by kernel_rfl) (by kernel_rfl) (by kernel_rfl) (fun _ _ _ h => h) (yieldsIf_load_mid (by rfl) _ _ rfl _ _ rfl _ _ (by intro w hSw; (try dsimp only at hSw); go_split_ands; assumption) (by assumption) rfl (by first | assumption | (simp only [*]; done))) (by assumption) ?_
        try simp only [Act.put, List.setIfInBounds_toArray, List.set_cons_zero, List.set_cons_succ]
        refine wpAnyH_take (i := 4) (oi := { dst := some 15, op := Op.move (Operand.tmp 1), type := 22, pos := "law.go:97", after := #[], guard := none }) (v := ?v4_3) rfl (by kernel_rfl) (by kernel_rfl) (by kernel_rfl) (fun _ _ _ h => h) (Or.inl ⟨by rfl, ?y4_3⟩) (by assumption) ?r4_3
        case y4_3 => intro w hSw; (try dsimp only at hSw); go_simp; try with_reducible rfl
        try simp only [Act.put, List.setIfInBounds_toArray, List.set_cons_zero, List.set_cons_succ]
        refine wpAnyH_take (i := 5) (oi := { dst := some 16, op := Op.move (Operand.tmp 5), type := 3, pos := "law.go:97", after := #[], guard := none }) (v := ?v5_4) rfl (by kernel_rfl) (by kernel_rfl) (by kernel_rfl) (fun _ _ _ h => h) (Or.inl ⟨by rfl, ?y5_4⟩) (by assumption) ?r5_4
        case y5_4 => intro w hSw; (try dsimp only at hSw); go_simp; try with_reducible rfl
        try simp only [Act.put, List.setIfInBounds_toArray, List.set_cons_zero, List.set_cons_succ]
        refine wpAnyH_take (i := 6) (oi := { dst := some 17, op := Op.indexAddr 22 (Operand.tmp 15) (Operand.tmp 16), type := 0, pos := "law.go:97", after := #[{ on := 4, ground := Ground.data }, { on := 5, ground := Ground.data }], guard := none }) (v := ?v6_5) rfl (by kernel_rfl) (by kernel_rfl) (by kernel_rfl) (fun _ _ _ h => h) (Or.inl ⟨by rfl, ?y6_5⟩) (by assumption) ?r6_5
        case y6_5 => intro w hSw; (try dsimp only at hSw); go_simp; try with_reducible rfl
        try simp only [Act.put, List.setIfInBounds_toArray, List.set_cons_zero, List.set_cons_succ]
        refine wpAnyH_take (i := 7) (oi := { dst := some 18, op := Op.load 23 (Operand.tmp 17), type := 23, pos := "law.go:97", after := #[{ on := 6, ground := Ground.data }], guard := none }) (v := _) rfl (by kernel_rfl) (by kernel_rfl) (by kernel_rfl) (fun _ _ _ h => h) (yieldsIf_load_mid (by rfl) _ _ rfl _ _ rfl _ _ (by intro w hSw; (try dsimp only at hSw); go_split_ands; assumption) (by assumption) rfl (by first | assumption | (simp only [*]; done))) (by assumption) ?_
        try simp only [Act.put, List.setIfInBounds_toArray, List.set_cons_zero, List.set_cons_succ]
        refine wpAnyH_take (i := 8) (oi := { dst := some 19, op := Op.binOp BinOp.neq 23 (Operand.tmp 14) (Operand.tmp 18) 23, type := 4, pos := "law.go:97", after := #[{ on := 3, ground := Ground.data }, { on := 7, ground := Ground.data }], guard := none }) (v := ?v8_6) rfl (by kernel_rfl) (by kernel_rfl) (by kernel_rfl) (fun _ _ _ h => h) (Or.inl ⟨by rfl, ?y8_6⟩) (by assumption) ?r8_6
        case y8_6 => intro w hSw; (try dsimp only at hSw); go_simp; try with_reducible rfl
        try simp only [Act.put, List.setIfInBounds_toArray, List.set_cons_zero, List.set_cons_succ]
        refine wpAnyH_done (by kernel_rfl) ?_ _
        refine NoPanic.normal ?_
        have HB := Lib.hid hbw.drew
        have hnx := HTK.out hxy
        clear hHeld r1 r2 hu e1 e2 heq hbw hxy hbeq
        go_wp2
        go_roundw
        case rel => exact ⟨i + 1, ⟨by go_num, by omega⟩, hnx, HB.out⟩
        case measure => simp [intOf]; omega
      · have hbeq : (x == y) = false := by simpa using hxy
        simp only [hbeq, Bool.not_false] at heq
        obtain rfl := HRES.out hxy
        refine wp_region_noPanic ?_
        refine wp_region_held_drew (S := (fun w' => w'.rangeAt g1 (o1 + i * 32) ax ∧ w'.rangeAt g2 (o2 + i * 32) ay)) (by kernel_rfl) ?_ (fun hHeld => ?_)
        · exact ⟨(World.rangeAt_drew _ _ _ _).2 r1, (World.rangeAt_drew _ _ _ _).2 r2⟩
        refine wpAnyH_take (i := 0) (oi := { dst := some 11, op := Op.move (Operand.tmp 0), type := 22, pos := "law.go:97", after := #[], guard := none }) (v := ?v0_7) rfl (by kernel_rfl) (by kernel_rfl) (by kernel_rfl) (fun _ _ _ h => h) (Or.inl ⟨by rfl, ?y0_7⟩) (by assumption) ?r0_7
        case y0_7 => intro w hSw; (try dsimp only at hSw); go_simp; try with_reducible rfl
        try simp only [Act.put, List.setIfInBounds_toArray, List.set_cons_zero, List.set_cons_succ]
        refine wpAnyH_take (i := 1) (oi := { dst := some 12, op := Op.move (Operand.tmp 5), type := 3, pos := "law.go:97", after := #[], guard := none }) (v := ?v1_8) rfl (by kernel_rfl) (by kernel_rfl) (by kernel_rfl) (fun _ _ _ h => h) (Or.inl ⟨by rfl, ?y1_8⟩) (by assumption) ?r1_8
        case y1_8 => intro w hSw; (try dsimp only at hSw); go_simp; try with_reducible rfl
        try simp only [Act.put, List.setIfInBounds_toArray, List.set_cons_zero, List.set_cons_succ]
        refine wpAnyH_take (i := 2) (oi := { dst := some 13, op := Op.indexAddr 22 (Operand.tmp 11) (Operand.tmp 12), type := 0, pos := "law.go:97", after := #[{ on := 0, ground := Ground.data }, { on := 1, ground := Ground.data }], guard := none }) (v := ?v2_9) rfl (by kernel_rfl) (by kernel_rfl) (by kernel_rfl) (fun _ _ _ h => h) (Or.inl ⟨by rfl, ?y2_9⟩) (by assumption) ?r2_9
        case y2_9 => intro w hSw; (try dsimp only at hSw); go_simp; try with_reducible rfl
        try simp only [Act.put, List.setIfInBounds_toArray, List.set_cons_zero, List.set_cons_succ]
        refine wpAnyH_take (i := 3) (oi := { dst := some 14, op := Op.load 23 (Operand.tmp 13), type := 23, pos := "law.go:97", after := #[{ on := 2, ground := Ground.data }], guard := none }) (v := _) rfl (by kernel_rfl) (by kernel_rfl) (by kernel_rfl) (fun _ _ _ h => h) (yieldsIf_load_mid (by rfl) _ _ rfl _ _ rfl _ _ (by intro w hSw; (try dsimp only at hSw); go_split_ands; assumption) (by assumption) rfl (by first | assumption | (simp only [*]; done))) (by assumption) ?_
        try simp only [Act.put, List.setIfInBounds_toArray, List.set_cons_zero, List.set_cons_succ]
        refine wpAnyH_take (i := 4) (oi := { dst := some 15, op := Op.move (Operand.tmp 1), type := 22, pos := "law.go:97", after := #[], guard := none }) (v := ?v4_10) rfl (by kernel_rfl) (by kernel_rfl) (by kernel_rfl) (fun _ _ _ h => h) (Or.inl ⟨by rfl, ?y4_10⟩) (by assumption) ?r4_10
        case y4_10 => intro w hSw; (try dsimp only at hSw); go_simp; try with_reducible rfl
        try simp only [Act.put, List.setIfInBounds_toArray, List.set_cons_zero, List.set_cons_succ]
        refine wpAnyH_take (i := 5) (oi := { dst := some 16, op := Op.move (Operand.tmp 5), type := 3, pos := "law.go:97", after := #[], guard := none }) (v := ?v5_11) rfl (by kernel_rfl) (by kernel_rfl) (by kernel_rfl) (fun _ _ _ h => h) (Or.inl ⟨by rfl, ?y5_11⟩) (by assumption) ?r5_11
        case y5_11 => intro w hSw; (try dsimp only at hSw); go_simp; try with_reducible rfl
        try simp only [Act.put, List.setIfInBounds_toArray, List.set_cons_zero, List.set_cons_succ]
        refine wpAnyH_take (i := 6) (oi := { dst := some 17, op := Op.indexAddr 22 (Operand.tmp 15) (Operand.tmp 16), type := 0, pos := "law.go:97", after := #[{ on := 4, ground := Ground.data }, { on := 5, ground := Ground.data }], guard := none }) (v := ?v6_12) rfl (by kernel_rfl) (by kernel_rfl) (by kernel_rfl) (fun _ _ _ h => h) (Or.inl ⟨by rfl, ?y6_12⟩) (by assumption) ?r6_12
        case y6_12 => intro w hSw; (try dsimp only at hSw); go_simp; try with_reducible rfl
        try simp only [Act.put, List.setIfInBounds_toArray, List.set_cons_zero, List.set_cons_succ]
        refine wpAnyH_take (i := 7) (oi := { dst := some 18, op := Op.load 23 (Operand.tmp 17), type := 23, pos := "law.go:97", after := #[{ on := 6, ground := Ground.data }], guard := none }) (v := _) rfl (by kernel_rfl) (by kernel_rfl) (by kernel_rfl) (fun _ _ _ h => h) (yieldsIf_load_mid (by rfl) _ _ rfl _ _ rfl _ _ (by intro w hSw; (try dsimp only at hSw); go_split_ands; assumption) (by assumption) rfl (by first | assumption | (simp only [*]; done))) (by assumption) ?_
        try simp only [Act.put, List.setIfInBounds_toArray, List.set_cons_zero, List.set_cons_succ]
        refine wpAnyH_take (i := 8) (oi := { dst := some 19, op := Op.binOp BinOp.neq 23 (Operand.tmp 14) (Operand.tmp 18) 23, type := 4, pos := "law.go:97", after := #[{ on := 3, ground := Ground.data }, { on := 7, ground := Ground.data }], guard := none }) (v := ?v8_13) rfl (by kernel_rfl) (by kernel_rfl) (by kernel_rfl) (fun _ _ _ h => h) (Or.inl ⟨by rfl, ?y8_13⟩) (by assumption) ?r8_13
        case y8_13 => intro w hSw; (try dsimp only at hSw); go_simp; try with_reducible rfl
        try simp only [Act.put, List.setIfInBounds_toArray, List.set_cons_zero, List.set_cons_succ]
        refine wpAnyH_done (by kernel_rfl) ?_ _
        refine NoPanic.normal ?_
        have HB := Lib.hid hbw.drew
        clear hHeld r1 r2 hu e1 e2 heq hbw hxy hbeq
        go_wp2
        go_ret
        exact ⟨rfl, HB.out⟩
    · have HB := Lib.hid hbw
      obtain rfl : i = n := by omega
      have hres : res = true := by
        rw [← HR.out]
        have h1 : la.take i = la := List.take_of_length_le (by rw [HN.out]; omega)
        have h2 : lb.take i = lb := List.take_of_length_le (by rw [HN2.out]; omega)
        rw [h1, h2] at htk
        rw [htk]; simp
      subst hres
      clear hbw htk
      go_wp2
      go_ret
      exact ⟨rfl, HB.out⟩
theorem there_lt {w : World} {b : Nat} (h : w.there b 0 64) : b < w.heap.size := by
  obtain ⟨u, hu⟩ := Option.isSome_iff_exists.1 (h 0 (by omega)).1
  exact World.block_lt_of_cell? w _ hu

set_option maxHeartbeats 1000000 in
set_option maxRecDepth 100000 in
theorem apart_few (va vb : Value) (la lb : List (List UInt8)) (w : World) (ha : HS w va la) (hb : HS w vb lb) (hlen : la.length = lb.length) (hroot : rootL la = rootL lb) (h : la.length < 2) :
    Calls Try.prog 23 #[va, vb] w fun e w' => e = .returned (.bool (!(la == lb))) ∧ Below w.heap.size w w' := by
  have hab : la = lb := by
    match la, lb, hlen, h with
    | [], [], _, _ => rfl
    | [x], [y], _, _ => rw [rootL_one, rootL_one] at hroot; rw [hroot]
  have e0 : (!(la == lb)) = false := by rw [hab]; simp
  rw [e0]
  obtain ⟨C, c, rfl, -⟩ := ha.form
  obtain ⟨n, hn⟩ : ∃ n, la.length = n := ⟨_, rfl⟩
  rw [hn] at h ⊢
  have d1 : decide (n < 2) = true := by simpa using h
  have d2 : decide ((n : Int) < 2) = true := by simp; omega
  clear ha hb hlen hroot hab e0 hn
  go_enter Try.func23, Try.ntmps23
  go_wp2
  go_ret
  exact ⟨rfl, Below.refl _ _⟩

set_option maxHeartbeats 4000000 in
set_option maxRecDepth 100000 in
theorem apart_two (va vb : Value) (la lb : List (List UInt8)) (w : World) (ha : HS w va la) (hb : HS w vb lb) (hlen : la.length = lb.length) (h2 : 2 ≤ la.length) (hmax : la.length ≤ 1000000) (hroot : rootL la = rootL lb)
    (IH : ∀ va' vb' la' lb' w', la'.length < la.length → HS w' va' la' → HS w' vb' lb' → la'.length = lb'.length → rootL la' = rootL lb' → Calls Try.prog 23 #[va', vb'] w' fun e w'' => e = .returned (.bool (!(la' == lb'))) ∧ Below w'.heap.size w' w'') :
    Calls Try.prog 23 #[va, vb] w fun e w' => e = .returned (.bool (!(la == lb))) ∧ Below w.heap.size w w' := by
  obtain ⟨C, c, rfl, hc, -⟩ := ha.form
  obtain ⟨D, d, rfl, hd, -⟩ := hb.form
  have hk := hlf_range la.length h2
  have hra2 := rootL_two la h2
  have hrb2 := rootL_two lb (by omega)
  rw [← hlen] at hrb2 hd
  obtain ⟨n, hn⟩ : ∃ n, la.length = n := ⟨_, rfl⟩
  have H0 : Hid (hgo 64 n 1 = hlf n ∧ n ≤ 1 * 2 ^ 64) := ⟨rfl, by omega⟩
  obtain ⟨h, hke⟩ : ∃ h, hlf n = h := ⟨_, rfl⟩
  rw [hke] at H0
  rw [hn, hke] at hk hra2 hrb2
  have hnb : lb.length = n := by rw [← hlen, hn]
  have hnmax : n ≤ 1000000 := by omega
  have ka := fun w => sums_runh C n c h (by omega) (h : Int) rfl w
  have kb := fun w => sums_run1 C n c h (by omega) (h : Int) rfl (n - h) (c - h) rfl rfl w
  have kc := fun w => sums_runh D n d h (by omega) (h : Int) rfl w
  have kd := fun w => sums_run1 D n d h (by omega) (h : Int) rfl (n - h) (d - h) rfl rfl w
  have s1 : ∀ w', Below w.heap.size w w' → HS w' (.slice C h c) (la.take h) := fun w' hb' => (ha.below hb').take h (by omega)
  have s2 : ∀ w', Below w.heap.size w w' → HS w' (.slice (cutS C c h) (n - h) (c - h)) (la.drop h) := fun w' hb' => (ha.below hb').drop h (n - h) (c - h) (by omega) (by omega) rfl
  rw [← hlen] at hb
  have s3 : ∀ w', Below w.heap.size w w' → HS w' (.slice D h d) (lb.take h) := fun w' hb' => (hb.below hb').take h (by omega)
  have s4 : ∀ w', Below w.heap.size w w' → HS w' (.slice (cutS D d h) (n - h) (d - h)) (lb.drop h) := fun w' hb' => (hb.below hb').drop h (n - h) (d - h) (by omega) (by omega) rfl
  have q1 := fun w' hb' => qroot_any ((la.take h).length + 1) _ _ w' (by omega) (s1 w' hb')
  have q2 := fun w' hb' => qroot_any ((la.drop h).length + 1) _ _ w' (by omega) (s2 w' hb')
  have q3 := fun w' hb' => qroot_any ((lb.take h).length + 1) _ _ w' (by omega) (s3 w' hb')
  have q4 := fun w' hb' => qroot_any ((lb.drop h).length + 1) _ _ w' (by omega) (s4 w' hb')
  have l1 := rootL_length (la.take h) (fun x hx => ha.all x (List.mem_of_mem_take hx))
  have l2 := rootL_length (la.drop h) (fun x hx => ha.all x (List.mem_of_mem_drop hx))
  have l3 := rootL_length (lb.take h) (fun x hx => hb.all x (List.mem_of_mem_take hx))
  have l4 := rootL_length (lb.drop h) (fun x hx => hb.all x (List.mem_of_mem_drop hx))
  have i1 : rootL (la.take h) = rootL (lb.take h) → ∀ w', Below w.heap.size w w' → Calls Try.prog 23 #[.slice C h c, .slice D h d] w' fun e w'' => e = .returned (.bool (!(la.take h == lb.take h))) ∧ Below w'.heap.size w' w'' := fun hr w' hb' =>
    IH _ _ _ _ w' (by rw [List.length_take]; omega) (s1 w' hb') (s3 w' hb') (by rw [List.length_take, List.length_take]; omega) hr
  have i2 : rootL (la.drop h) = rootL (lb.drop h) → ∀ w', Below w.heap.size w w' → Calls Try.prog 23 #[.slice (cutS C c h) (n - h) (c - h), .slice (cutS D d h) (n - h) (d - h)] w' fun e w'' => e = .returned (.bool (!(la.drop h == lb.drop h))) ∧ Below w'.heap.size w' w'' := fun hr w' hb' =>
    IH _ _ _ _ w' (by rw [List.length_drop]; omega) (s2 w' hb') (s4 w' hb') (by rw [List.length_drop, List.length_drop]; omega) hr
  have hres : (la == lb) = (la.take h == lb.take h && la.drop h == lb.drop h) := by
    rw [Bool.eq_iff_iff]
    simp only [Bool.and_eq_true, beq_iff_eq]
    refine ⟨fun e => by subst e; exact ⟨rfl, rfl⟩, fun ⟨e1, e2⟩ => ?_⟩
    rw [← List.take_append_drop h la, ← List.take_append_drop h lb, e1, e2]
  rw [hres]
  have hno : (la.take h == lb.take h) = true → rootL (la.take h) = rootL (lb.take h) := fun e => by rw [beq_iff_eq.1 e]
  have hno2 : (la.drop h == lb.drop h) = true → rootL (la.drop h) = rootL (lb.drop h) := fun e => by rw [beq_iff_eq.1 e]
  have hnode : nodeL (rootL (la.take h)) (rootL (la.drop h)) = nodeL (rootL (lb.take h)) (rootL (lb.drop h)) := by rw [← hra2, ← hrb2]; exact hroot
  obtain ⟨e1, he1⟩ : ∃ e, (la.take h == lb.take h) = e := ⟨_, rfl⟩
  obtain ⟨e2, he2⟩ : ∃ e, (la.drop h == lb.drop h) = e := ⟨_, rfl⟩
  obtain ⟨r1, hr1⟩ : ∃ r, rootL (la.take h) = r := ⟨_, rfl⟩
  obtain ⟨r2, hr2⟩ : ∃ r, rootL (la.drop h) = r := ⟨_, rfl⟩
  obtain ⟨r3, hr3⟩ : ∃ r, rootL (lb.take h) = r := ⟨_, rfl⟩
  obtain ⟨r4, hr4⟩ : ∃ r, rootL (lb.drop h) = r := ⟨_, rfl⟩
  simp only [hr1, hr2, hr3, hr4, he1, he2] at q1 q2 q3 q4 l1 l2 l3 l4 i1 i2 hno hno2 hnode ⊢
  have hn1 := fun w => qnode_any r1 r2 l1 l2 w
  have hn2 := fun w => qnode_any r3 r4 l3 l4 w
  have hnl := nodeL_length r1 r2
  rw [← hnode] at hn2
  obtain ⟨out, hout⟩ : ∃ out, nodeL r1 r2 = out := ⟨_, rfl⟩
  simp only [hout] at hn1 hn2 hnl
  have heo := fun w => run_eql_sum out out hnl hnl w
  simp only [beq_self_eq_true] at heo
  have hneq := fun w => run_neq_pair r1 r2 r3 r4 l1 l2 l3 l4 w
  have c1 := info32 r1 l1
  have c2 := info32 r2 l2
  have c3 := info32 r3 l3
  have c4 := info32 r4 l4
  have a1 : (enc8 r1).length = 32 := by rw [enc8_len, l1]
  have a2 : (enc8 r2).length = 32 := by rw [enc8_len, l2]
  have a3 : (enc8 r3).length = 32 := by rw [enc8_len, l3]
  have a4 : (enc8 r4).length = 32 := by rw [enc8_len, l4]
  have p1 : ∀ v ∈ enc8 r1 ++ enc8 r2, v.oneCell' = true := fun v hv => (List.mem_append.1 hv).elim (enc8_one _ v) (enc8_one _ v)
  have p3 : ∀ v ∈ enc8 r3 ++ enc8 r4, v.oneCell' = true := fun v hv => (List.mem_append.1 hv).elim (enc8_one _ v) (enc8_one _ v)
  have t1 : (enc8 r1 ++ enc8 r2).length = 64 := by rw [List.length_append, a1, a2]
  have t3 : (enc8 r3 ++ enc8 r4).length = 64 := by rw [List.length_append, a3, a4]
  have u1 := info64 _ t1
  have u3 := info64 _ t3
  have hv1 : ∀ (W : World) (B : Nat), W.rangeAt B 0 (enc8 r1 ++ enc8 r2) → W.rangeAt B 0 (enc8 r1) ∧ W.rangeAt B 32 (enc8 r2) := fun W B h => range_halves h a1
  have hv3 : ∀ (W : World) (B : Nat), W.rangeAt B 0 (enc8 r3 ++ enc8 r4) → W.rangeAt B 0 (enc8 r3) ∧ W.rangeAt B 32 (enc8 r4) := fun W B h => range_halves h a3
  have hxy : (r1 == r3 && r2 == r4) = true → r1 = r3 ∧ r2 = r4 := by simp
  have hxn : (r1 == r3 && r2 == r4) = false → (e1 && e2) = false := by
    intro hh
    cases h1 : e1 with
    | false => rfl
    | true =>
      cases h2 : e2 with
      | false => rfl
      | true => rw [hno h1, hno2 h2] at hh; simp at hh
  obtain ⟨xy, hxye⟩ : ∃ xy, (r1 == r3 && r2 == r4) = xy := ⟨_, rfl⟩
  rw [hxye] at hxy hxn
  simp only [hxye] at hneq
  obtain ⟨b1, hb1⟩ : ∃ b, enc8 r1 = b := ⟨_, rfl⟩
  obtain ⟨b2, hb2⟩ : ∃ b, enc8 r2 = b := ⟨_, rfl⟩
  obtain ⟨b3, hb3⟩ : ∃ b, enc8 r3 = b := ⟨_, rfl⟩
  obtain ⟨b4, hb4⟩ : ∃ b, enc8 r4 = b := ⟨_, rfl⟩
  obtain ⟨ao, hao⟩ : ∃ b, enc8 out = b := ⟨_, rfl⟩
  simp only [hb1, hb2, hb3, hb4, hao] at q1 q2 q3 q4 hn1 hn2 heo hneq c1 c2 c3 c4 a1 a2 a3 a4 p1 p3 t1 t3 u1 u3 hv1 hv3
  obtain ⟨pa, hpa⟩ : ∃ p, b1 ++ b2 = p := ⟨_, rfl⟩
  obtain ⟨pb, hpb⟩ : ∃ p, b3 ++ b4 = p := ⟨_, rfl⟩
  simp only [hpa, hpb] at hneq p1 p3 t1 t3 u1 u3 hv1 hv3
  obtain ⟨A, hA⟩ : ∃ A, w.heap.size = A := ⟨_, rfl⟩
  simp only [hA] at q1 q2 q3 q4 i1 i2
  have HA := Lib.hid hA
  clear hA
  have Q1 := Lib.hid q1
  have Q2 := Lib.hid q2
  have Q3 := Lib.hid q3
  have Q4 := Lib.hid q4
  have I1 := Lib.hid i1
  have I2 := Lib.hid i2
  have N1 := Lib.hid hn1
  have N2 := Lib.hid hn2
  have CC := Lib.hid (And.intro (And.intro c1 c2) (And.intro c3 c4))
  have AA := Lib.hid (And.intro (And.intro a1 a2) (And.intro a3 a4))
  have PP := Lib.hid (And.intro p1 p3)
  have TT := Lib.hid (And.intro t1 t3)
  have UU := Lib.hid (And.intro u1 u3)
  have V1 := Lib.hid hv1
  have V3 := Lib.hid hv3
  have HXY := Lib.hid hxy
  have HXN := Lib.hid hxn
  have HPA := Lib.hid hpa
  have HPB := Lib.hid hpb
  have dn : ¬ n < 2 := by omega
  have dn' : ¬ (n : Int) < 2 := by omega
  rw [hn, hnb]
  clear IH ha hb s1 s2 s3 s4 q1 q2 q3 q4 i1 i2 hn1 hn2 c1 c2 c3 c4 a1 a2 a3 a4 p1 p3 t1 t3 u1 u3 hv1 hv3 hxy hxn hpa hpb hb1 hb2 hb3 hb4 hao hxye l1 l2 l3 l4 hnl hout hr1 hr2 hr3 hr4 he1 he2 hno hno2 hnode hres hroot hra2 hrb2 hke hnb hn hlen
  obtain ⟨res, hres⟩ : ∃ res, (!(e1 && e2)) = res := ⟨_, rfl⟩
  rw [hres]
  have kz := zeroPair
  go_enter Try.func23, Try.ntmps23
  go_wp2
  go_loop [5] (fun x => ∃ k f : Nat, x = .int .i64 (k : Int) ∧ 1 ≤ k ∧ (k ≤ n ∨ k = 1) ∧ hgo f n k = h ∧ n ≤ k * 2 ^ f) (fun x => n - (intOf x).toNat)
  case atStart => exact ⟨1, 64, rfl, by omega, .inr rfl, H0.out.1, H0.out.2⟩
  case round =>
    obtain ⟨k, f, rfl, hk1, hk2, hg, hf⟩ := hrel
    clear H0
    have m1 : IntKind.i64.wrap ((n : Int) - (k : Int)) = (n : Int) - (k : Int) := IntWalk.i64_in _ (by omega)
    by_cases hcc : 2 * k < n
    · have d1 : decide ((k : Int) < (n : Int) - (k : Int)) = true := by simp; omega
      have m2 : IntKind.i64.wrap ((k : Int) * 2) = ((2 * k : Nat) : Int) := by rw [IntWalk.i64_in _ (by omega)]; omega
      have hx : ∃ g, hgo g n (2 * k) = h ∧ n ≤ (2 * k) * 2 ^ g := by
        cases f with
        | zero => omega
        | succ g =>
          unfold hgo at hg
          rw [if_pos hcc] at hg
          refine ⟨g, hg, ?_⟩
          rw [Nat.pow_succ] at hf
          rw [show 2 * k * 2 ^ g = k * (2 ^ g * 2) by rw [Nat.mul_comm 2 k, Nat.mul_assoc, Nat.mul_comm 2 (2 ^ g)]]
          exact hf
      obtain ⟨g, hg1, hg2⟩ := hx
      have Hg := Lib.hid hg1
      have Hf := Lib.hid hg2
      obtain ⟨k2, hk3⟩ : ∃ k2, 2 * k = k2 := ⟨_, rfl⟩
      rw [hk3] at m2 hcc Hg Hf
      clear hg hf hg1 hg2
      go_wp2
      go_round
      case rel => exact ⟨k2, g, rfl, by omega, .inl (by omega), Hg.out, Hf.out⟩
      case measure => simp [intOf]; omega
    · have d1 : decide ((k : Int) < (n : Int) - (k : Int)) = false := by simp; omega
      rw [hgo_stop f n k hcc] at hg
      have hg' := hg.symm
      subst hg'
      clear hf hg
      go_wp2_with fail
      rename_i K6 hK6 hw6
      have key6 : ∀ (B6 : Nat) (W6 : World), A ≤ B6 → Mine A w W6 → W6.there B6 0 64 → W6.rangeAt B6 0 pa → K6 { tmps := (List.toArray ((.slice C n c : Value) :: (.slice D n d : Value) :: undef :: undef :: (.bool false : Value) :: (.int .i64 (h : Int) : Value) :: (.pointer (some ⟨B6, 0, none⟩) : Value) :: undef :: (.slice C n c : Value) :: (.int .i64 (n : Int) : Value) :: (.bool false : Value) :: (.int .i64 (h : Int) : Value) :: (.slice C n c : Value) :: (.int .i64 (n : Int) : Value) :: (.int .i64 (h : Int) : Value) :: (.int .i64 ((n : Int) - (h : Int)) : Value) :: (.bool false : Value) :: u17 :: u18 :: (.slice C n c : Value) :: (.int .i64 (h : Int) : Value) :: (.slice C h c : Value) :: (.agg b1.toArray : Value) :: (.slice C n c : Value) :: (.int .i64 (h : Int) : Value) :: (.slice (cutS C c h) (n - h) (c - h) : Value) :: (.agg b2.toArray : Value) :: (.agg pa.toArray : Value) :: undef :: undef :: undef :: undef :: undef :: undef :: undef :: undef :: undef :: undef :: undef :: undef :: undef :: undef :: undef :: undef :: undef :: undef :: undef :: undef :: undef :: undef :: undef :: undef :: undef :: undef :: undef :: undef :: undef :: undef :: undef :: undef :: undef :: undef :: undef :: undef :: undef :: undef :: undef :: [])), defers := [] } W6 := by
        intro B6 W6 hlo6 hm6 hth6 hr6
        refine hK6 _ _ ?_
        clear hK6
        have HR6 := Lib.hid hr6
        have HT6 := Lib.hid hth6
        have M6 := Lib.hid hm6
        clear hr6 hth6 hm6
        go_wp2_with fail
        rename_i K7 hK7
        have key7 : ∀ (B7 : Nat) (W7 : World), B6 + 1 ≤ B7 → Mine A w W7 → W7.rangeAt B6 0 pa → W7.rangeAt B7 0 pb → K7 { tmps := (List.toArray ((.slice C n c : Value) :: (.slice D n d : Value) :: undef :: undef :: (.bool false : Value) :: (.int .i64 (h : Int) : Value) :: (.pointer (some ⟨B6, 0, none⟩) : Value) :: (.pointer (some ⟨B7, 0, none⟩) : Value) :: (.slice C n c : Value) :: (.int .i64 (n : Int) : Value) :: (.bool false : Value) :: (.int .i64 (h : Int) : Value) :: (.slice C n c : Value) :: (.int .i64 (n : Int) : Value) :: (.int .i64 (h : Int) : Value) :: (.int .i64 ((n : Int) - (h : Int)) : Value) :: (.bool false : Value) :: u17 :: u18 :: (.slice C n c : Value) :: (.int .i64 (h : Int) : Value) :: (.slice C h c : Value) :: (.agg b1.toArray : Value) :: (.slice C n c : Value) :: (.int .i64 (h : Int) : Value) :: (.slice (cutS C c h) (n - h) (c - h) : Value) :: (.agg b2.toArray : Value) :: (.agg pa.toArray : Value) :: (.slice D n d : Value) :: (.int .i64 (h : Int) : Value) :: (.slice D h d : Value) :: (.agg b3.toArray : Value) :: (.slice D n d : Value) :: (.int .i64 (h : Int) : Value) :: (.slice (cutS D d h) (n - h) (d - h) : Value) :: (.agg b4.toArray : Value) :: (.agg pb.toArray : Value) :: undef :: undef :: undef :: undef :: undef :: undef :: undef :: undef :: undef :: undef :: undef :: undef :: undef :: undef :: undef :: undef :: undef :: undef :: undef :: undef :: undef :: undef :: undef :: undef :: undef :: undef :: undef :: undef :: undef :: undef :: [])), defers := [] } W7 := by
          intro B7 W7 hlo7 hm7 hr6 hr7
          refine hK7 _ _ ?_
          clear hK7
          have RA := Lib.hid hr6
          have RB := Lib.hid hr7
          have M7 := Lib.hid hm7
          clear hr6 hr7 hm7
          have hun := Try.underlying23
          cases xy with
          | false =>
            obtain rfl : res = true := by rw [← hres, HXN.out rfl]; rfl
            go_wp2_with (first | (refine Row.pload RA.out rfl (.tmp 6) rfl rfl UU.out.1 ?_) | (refine Row.pload RB.out rfl (.tmp 7) rfl rfl UU.out.2 ?_))
            have hA12 := V1.out _ _ RA.out
            have hB12 := V3.out _ _ RB.out
            have c1 := CC.out.1.1
            have c2 := CC.out.1.2
            have c3 := CC.out.2.1
            have c4 := CC.out.2.2
            refine wp_region_noPanic ?_
            refine wp_region_held_drew (S := (fun w' => Mine A w w' ∧ (w'.rangeAt B6 0 b1 ∧ w'.rangeAt B6 32 b2) ∧ (w'.rangeAt B7 0 b3 ∧ w'.rangeAt B7 32 b4))) (by kernel_rfl) ?_ (fun hHeld => ?_)
            · exact ⟨⟨M7.out.le, M7.out.bel.drew⟩, ⟨(World.rangeAt_drew _ _ _ _).2 hA12.1, (World.rangeAt_drew _ _ _ _).2 hA12.2⟩, ⟨(World.rangeAt_drew _ _ _ _).2 hB12.1, (World.rangeAt_drew _ _ _ _).2 hB12.2⟩⟩
            refine wpAnyH_take (i := 0) (oi := { dst := some 40, op := Op.indexAddr 51 (Operand.tmp 6) (Operand.const (Value.int IntKind.i64 0)), type := 0, pos := "law.go:116", after := #[], guard := none }) (v := ?v0_14) rfl (by kernel_rfl) (by kernel_rfl) (by kernel_rfl) (fun _ _ _ h => h) (Or.inl ⟨by rfl, ?y0_14⟩) (by assumption) ?r0_14
            case y0_14 => intro w hSw; (try dsimp only at hSw); go_simp; try with_reducible rfl
            try simp only [Act.put, List.setIfInBounds_toArray, List.set_cons_zero, List.set_cons_succ]
            refine wpAnyH_take (i := 1) (oi := { dst := some 41, op := Op.load 23 (Operand.tmp 40), type := 23, pos := "law.go:116", after := #[{ on := 0, ground := Ground.data }], guard := none }) (v := _) rfl (by kernel_rfl) (by kernel_rfl) (by kernel_rfl) (fun _ _ _ h => h) (yieldsIf_load_mid (by rfl) _ _ rfl _ _ rfl _ _ (by intro w hSw; (try dsimp only at hSw); go_split_ands; assumption) (by assumption) rfl (by first | assumption | (simp only [*]; done))) (by assumption) ?_
            try simp only [Act.put, List.setIfInBounds_toArray, List.set_cons_zero, List.set_cons_succ]
            refine wpAnyH_take (i := 2) (oi := { dst := some 42, op := Op.indexAddr 51 (Operand.tmp 6) (Operand.const (Value.int IntKind.i64 1)), type := 0, pos := "law.go:116", after := #[], guard := none }) (v := ?v2_15) rfl (by kernel_rfl) (by kernel_rfl) (by kernel_rfl) (fun _ _ _ h => h) (Or.inl ⟨by rfl, ?y2_15⟩) (by assumption) ?r2_15
            case y2_15 => intro w hSw; (try dsimp only at hSw); go_simp; try with_reducible rfl
            try simp only [Act.put, List.setIfInBounds_toArray, List.set_cons_zero, List.set_cons_succ]
            refine wpAnyH_take (i := 3) (oi := { dst := some 43, op := Op.load 23 (Operand.tmp 42), type := 23, pos := "law.go:116", after := #[{ on := 2, ground := Ground.data }], guard := none }) (v := _) rfl (by kernel_rfl) (by kernel_rfl) (by kernel_rfl) (fun _ _ _ h => h) (yieldsIf_load_mid (by rfl) _ _ rfl _ _ rfl _ _ (by intro w hSw; (try dsimp only at hSw); go_split_ands; assumption) (by assumption) rfl (by first | assumption | (simp only [*]; done))) (by assumption) ?_
            try simp only [Act.put, List.setIfInBounds_toArray, List.set_cons_zero, List.set_cons_succ]
            refine wpAnyH_take (i := 5) (oi := { dst := some 45, op := Op.indexAddr 51 (Operand.tmp 7) (Operand.const (Value.int IntKind.i64 0)), type := 0, pos := "law.go:116", after := #[], guard := none }) (v := ?v5_16) rfl (by kernel_rfl) (by kernel_rfl) (by kernel_rfl) (fun _ _ _ h => h) (Or.inl ⟨by rfl, ?y5_16⟩) (by assumption) ?r5_16
            case y5_16 => intro w hSw; (try dsimp only at hSw); go_simp; try with_reducible rfl
            try simp only [Act.put, List.setIfInBounds_toArray, List.set_cons_zero, List.set_cons_succ]
            refine wpAnyH_take (i := 6) (oi := { dst := some 46, op := Op.load 23 (Operand.tmp 45), type := 23, pos := "law.go:116", after := #[{ on := 5, ground := Ground.data }], guard := none }) (v := _) rfl (by kernel_rfl) (by kernel_rfl) (by kernel_rfl) (fun _ _ _ h => h) (yieldsIf_load_mid (by rfl) _ _ rfl _ _ rfl _ _ (by intro w hSw; (try dsimp only at hSw); go_split_ands; assumption) (by assumption) rfl (by first | assumption | (simp only [*]; done))) (by assumption) ?_
            try simp only [Act.put, List.setIfInBounds_toArray, List.set_cons_zero, List.set_cons_succ]
            refine wpAnyH_take (i := 7) (oi := { dst := some 47, op := Op.indexAddr 51 (Operand.tmp 7) (Operand.const (Value.int IntKind.i64 1)), type := 0, pos := "law.go:116", after := #[], guard := none }) (v := ?v7_17) rfl (by kernel_rfl) (by kernel_rfl) (by kernel_rfl) (fun _ _ _ h => h) (Or.inl ⟨by rfl, ?y7_17⟩) (by assumption) ?r7_17
            case y7_17 => intro w hSw; (try dsimp only at hSw); go_simp; try with_reducible rfl
            try simp only [Act.put, List.setIfInBounds_toArray, List.set_cons_zero, List.set_cons_succ]
            refine wpAnyH_take (i := 8) (oi := { dst := some 48, op := Op.load 23 (Operand.tmp 47), type := 23, pos := "law.go:116", after := #[{ on := 7, ground := Ground.data }], guard := none }) (v := _) rfl (by kernel_rfl) (by kernel_rfl) (by kernel_rfl) (fun _ _ _ h => h) (yieldsIf_load_mid (by rfl) _ _ rfl _ _ rfl _ _ (by intro w hSw; (try dsimp only at hSw); go_split_ands; assumption) (by assumption) rfl (by first | assumption | (simp only [*]; done))) (by assumption) ?_
            try simp only [Act.put, List.setIfInBounds_toArray, List.set_cons_zero, List.set_cons_succ]
            refine wpAnyH_ready (rs := [4]) (by kernel_rfl) (by simp) (AllReadyH.cons (o := { dst := some 44, op := Op.call { callee := Callee.value (Operand.func 32), args := #[Operand.tmp 41, Operand.tmp 43], argTypes := #[23, 23] }, type := 23, pos := "law.go:116", after := #[{ on := 1, ground := Ground.data }, { on := 3, ground := Ground.data }], guard := none }) rfl (fun K hK => ?_) AllReadyH.nil)
            go_simp
            refine (N1.out _).mono ?_; rintro e w6 ⟨rfl, hbw6⟩
            go_wp2_with fail
            refine hK.out _ _ ?_ (fun hHeld => ?_)
            · (try dsimp only); (go_split_ands; (repeat' apply And.intro) <;> first | assumption | exact Mine.call (by assumption) (by assumption) | exact Mine.alloc (by assumption) _ | exact Mine.setCells (by assumption) _ _ _ (by omega) | exact Mine.callN (by assumption) (by assumption) (by omega) | exact Row.belowN (by assumption) (by assumption) (by omega) | exact there_belowN (by assumption) (by assumption) (by omega) | exact rangeAt_below (by assumption) (by assumption) | exact World.rangeAt_alloc (by assumption) _ | exact World.rangeAt_setCells_apart (by assumption) _ _ _ (Or.inl (by omega)) | exact there_below (by assumption) (by assumption) | exact World.there_alloc (by assumption) _ | exact World.there_setCells (by assumption) _ _ _ | exact Row.belowS (by assumption) (by assumption) | exact Row.alloc (by assumption) _ | exact Row.setCells (by assumption) _ _ (by omega) | exact HS.below (by assumption) (by assumption) | exact SB.below (by assumption) (by assumption) | exact HS.alloc (by assumption) _)
            clear hK K
            try simp only [Act.put, List.setIfInBounds_toArray, List.set_cons_zero, List.set_cons_succ]
            refine wpAnyH_ready (rs := [9]) (by kernel_rfl) (by simp) (AllReadyH.cons (o := { dst := some 49, op := Op.call { callee := Callee.value (Operand.func 32), args := #[Operand.tmp 46, Operand.tmp 48], argTypes := #[23, 23] }, type := 23, pos := "law.go:116", after := #[{ on := 6, ground := Ground.data }, { on := 8, ground := Ground.data }, { on := 4, ground := Ground.chain }], guard := none }) rfl (fun K hK => ?_) AllReadyH.nil)
            go_simp
            refine (N2.out _).mono ?_; rintro e w7 ⟨rfl, hbw7⟩
            go_wp2_with fail
            refine hK.out _ _ ?_ (fun hHeld => ?_)
            · (try dsimp only); (go_split_ands; (repeat' apply And.intro) <;> first | assumption | exact Mine.call (by assumption) (by assumption) | exact Mine.alloc (by assumption) _ | exact Mine.setCells (by assumption) _ _ _ (by omega) | exact Mine.callN (by assumption) (by assumption) (by omega) | exact Row.belowN (by assumption) (by assumption) (by omega) | exact there_belowN (by assumption) (by assumption) (by omega) | exact rangeAt_below (by assumption) (by assumption) | exact World.rangeAt_alloc (by assumption) _ | exact World.rangeAt_setCells_apart (by assumption) _ _ _ (Or.inl (by omega)) | exact there_below (by assumption) (by assumption) | exact World.there_alloc (by assumption) _ | exact World.there_setCells (by assumption) _ _ _ | exact Row.belowS (by assumption) (by assumption) | exact Row.alloc (by assumption) _ | exact Row.setCells (by assumption) _ _ (by omega) | exact HS.below (by assumption) (by assumption) | exact SB.below (by assumption) (by assumption) | exact HS.alloc (by assumption) _)
            clear hK K
            try simp only [Act.put, List.setIfInBounds_toArray, List.set_cons_zero, List.set_cons_succ]
            refine wpAnyH_take (i := 10) (oi := { dst := some 50, op := Op.binOp BinOp.eql 23 (Operand.tmp 44) (Operand.tmp 49) 23, type := 4, pos := "law.go:116", after := #[{ on := 4, ground := Ground.data }, { on := 9, ground := Ground.data }], guard := none }) (v := ?v10_18) rfl (by kernel_rfl) (by kernel_rfl) (by kernel_rfl) (fun _ _ _ h => h) (Or.inl ⟨by rfl, ?y10_18⟩) (by assumption) ?r10_18
            case y10_18 => intro w hSw; (try dsimp only at hSw); go_simp; try with_reducible rfl
            try simp only [Act.put, List.setIfInBounds_toArray, List.set_cons_zero, List.set_cons_succ]
            refine wpAnyH_take (i := 11) (oi := { dst := some 4, op := Op.assign (Operand.tmp 50), type := 4, pos := "law.go:116", after := #[{ on := 10, ground := Ground.data }, { on := 9, ground := Ground.chain }, { on := 0, ground := Ground.phase }, { on := 1, ground := Ground.phase }, { on := 2, ground := Ground.phase }, { on := 3, ground := Ground.phase }, { on := 4, ground := Ground.phase }, { on := 5, ground := Ground.phase }, { on := 6, ground := Ground.phase }, { on := 7, ground := Ground.phase }, { on := 8, ground := Ground.phase }, { on := 9, ground := Ground.phase }, { on := 10, ground := Ground.phase }], guard := none }) (v := ?v11_19) rfl (by kernel_rfl) (by kernel_rfl) (by kernel_rfl) (fun _ _ _ h => h) (Or.inl ⟨by rfl, ?y11_19⟩) (by assumption) ?r11_19
            case y11_19 => intro w hSw; (try dsimp only at hSw); go_simp; try with_reducible rfl
            try simp only [Act.put, List.setIfInBounds_toArray, List.set_cons_zero, List.set_cons_succ]
            refine wpAnyH_done (by kernel_rfl) ?_ _
            refine NoPanic.normal ?_
            have HB := Lib.hid hHeld.1.bel
            clear hHeld hA12 hB12 c1 c2 c3 c4 hun
            go_wp2
            go_ret
            exact ⟨rfl, by rw [HA.out]; exact HB.out⟩
          | true =>
            obtain ⟨h13, h24⟩ := HXY.out rfl
            have j1 := Lib.hid (I1.out h13)
            have j2 := Lib.hid (I2.out h24)
            clear hun
            go_wp2_with (first | (refine Row.pload RA.out rfl (.tmp 6) rfl rfl UU.out.1 ?_) | (refine Row.pload RB.out rfl (.tmp 7) rfl rfl UU.out.2 ?_))
            clear RA RB I1 I2 h13 h24 hneq heo V1 V3
            cases e1 with
            | false =>
              obtain rfl : res = true := by rw [← hres]; rfl
              refine wp_region_noPanic ?_
              refine wp_region_held_drew (S := (fun w' => Mine A w w')) (by kernel_rfl) ?_ (fun hHeld => ?_)
              · exact ⟨M7.out.le, M7.out.bel.drew⟩
              refine wpAnyH_take (i := 0) (oi := { dst := some 51, op := Op.move (Operand.tmp 0), type := 22, pos := "law.go:118", after := #[], guard := none }) (v := ?v0_20) rfl (by kernel_rfl) (by kernel_rfl) (by kernel_rfl) (fun _ _ _ h => h) (Or.inl ⟨by rfl, ?y0_20⟩) (by assumption) ?r0_20
              case y0_20 => intro w hSw; (try dsimp only at hSw); go_simp; try with_reducible rfl
              try simp only [Act.put, List.setIfInBounds_toArray, List.set_cons_zero, List.set_cons_succ]
              refine wpAnyH_take (i := 1) (oi := { dst := some 52, op := Op.move (Operand.tmp 5), type := 3, pos := "law.go:118", after := #[], guard := none }) (v := ?v1_21) rfl (by kernel_rfl) (by kernel_rfl) (by kernel_rfl) (fun _ _ _ h => h) (Or.inl ⟨by rfl, ?y1_21⟩) (by assumption) ?r1_21
              case y1_21 => intro w hSw; (try dsimp only at hSw); go_simp; try with_reducible rfl
              try simp only [Act.put, List.setIfInBounds_toArray, List.set_cons_zero, List.set_cons_succ]
              refine wpAnyH_take (i := 2) (oi := { dst := some 53, op := Op.slice 22 (Operand.tmp 51) none (some (Operand.tmp 52)) none, type := 22, pos := "law.go:118", after := #[{ on := 0, ground := Ground.data }, { on := 1, ground := Ground.data }], guard := none }) (v := ?v2_22) rfl (by kernel_rfl) (by kernel_rfl) (by kernel_rfl) (fun _ _ _ h => h) (Or.inl ⟨by rfl, ?y2_22⟩) (by assumption) ?r2_22
              case y2_22 => intro w hSw; (try dsimp only at hSw); go_simp; try with_reducible rfl
              try simp only [Act.put, List.setIfInBounds_toArray, List.set_cons_zero, List.set_cons_succ]
              refine wpAnyH_take (i := 3) (oi := { dst := some 54, op := Op.move (Operand.tmp 1), type := 22, pos := "law.go:118", after := #[], guard := none }) (v := ?v3_23) rfl (by kernel_rfl) (by kernel_rfl) (by kernel_rfl) (fun _ _ _ h => h) (Or.inl ⟨by rfl, ?y3_23⟩) (by assumption) ?r3_23
              case y3_23 => intro w hSw; (try dsimp only at hSw); go_simp; try with_reducible rfl
              try simp only [Act.put, List.setIfInBounds_toArray, List.set_cons_zero, List.set_cons_succ]
              refine wpAnyH_take (i := 4) (oi := { dst := some 55, op := Op.move (Operand.tmp 5), type := 3, pos := "law.go:118", after := #[], guard := none }) (v := ?v4_24) rfl (by kernel_rfl) (by kernel_rfl) (by kernel_rfl) (fun _ _ _ h => h) (Or.inl ⟨by rfl, ?y4_24⟩) (by assumption) ?r4_24
              case y4_24 => intro w hSw; (try dsimp only at hSw); go_simp; try with_reducible rfl
              try simp only [Act.put, List.setIfInBounds_toArray, List.set_cons_zero, List.set_cons_succ]
              refine wpAnyH_take (i := 5) (oi := { dst := some 56, op := Op.slice 22 (Operand.tmp 54) none (some (Operand.tmp 55)) none, type := 22, pos := "law.go:118", after := #[{ on := 3, ground := Ground.data }, { on := 4, ground := Ground.data }], guard := none }) (v := ?v5_25) rfl (by kernel_rfl) (by kernel_rfl) (by kernel_rfl) (fun _ _ _ h => h) (Or.inl ⟨by rfl, ?y5_25⟩) (by assumption) ?r5_25
              case y5_25 => intro w hSw; (try dsimp only at hSw); go_simp; try with_reducible rfl
              try simp only [Act.put, List.setIfInBounds_toArray, List.set_cons_zero, List.set_cons_succ]
              refine wpAnyH_ready (rs := [6]) (by kernel_rfl) (by simp) (AllReadyH.cons (o := { dst := some 57, op := Op.call { callee := Callee.value (Operand.func 23), args := #[Operand.tmp 53, Operand.tmp 56], argTypes := #[22, 22] }, type := 4, pos := "law.go:118", after := #[{ on := 2, ground := Ground.data }, { on := 5, ground := Ground.data }], guard := none }) rfl (fun K hK => ?_) AllReadyH.nil)
              go_simp
              refine (j1.out _ hHeld.bel).mono ?_; rintro e w6 ⟨rfl, hbw6⟩
              go_wp2_with fail
              refine hK.out _ _ ?_ (fun hHeld => ?_)
              · (try dsimp only); (go_split_ands; (repeat' apply And.intro) <;> first | assumption | exact Mine.call (by assumption) (by assumption) | exact Mine.alloc (by assumption) _ | exact Mine.setCells (by assumption) _ _ _ (by omega) | exact Mine.callN (by assumption) (by assumption) (by omega) | exact Row.belowN (by assumption) (by assumption) (by omega) | exact there_belowN (by assumption) (by assumption) (by omega) | exact rangeAt_below (by assumption) (by assumption) | exact World.rangeAt_alloc (by assumption) _ | exact World.rangeAt_setCells_apart (by assumption) _ _ _ (Or.inl (by omega)) | exact there_below (by assumption) (by assumption) | exact World.there_alloc (by assumption) _ | exact World.there_setCells (by assumption) _ _ _ | exact Row.belowS (by assumption) (by assumption) | exact Row.alloc (by assumption) _ | exact Row.setCells (by assumption) _ _ (by omega) | exact HS.below (by assumption) (by assumption) | exact SB.below (by assumption) (by assumption) | exact HS.alloc (by assumption) _)
              clear hK K
              try simp only [Act.put, List.setIfInBounds_toArray, List.set_cons_zero, List.set_cons_succ]
              refine wpAnyH_take (i := 7) (oi := { dst := some 58, op := Op.move (Operand.tmp 57), type := 4, pos := "law.go:118", after := #[{ on := 6, ground := Ground.data }, { on := 6, ground := Ground.chain }], guard := none }) (v := ?v7_26) rfl (by kernel_rfl) (by kernel_rfl) (by kernel_rfl) (fun _ _ _ h => h) (Or.inl ⟨by rfl, ?y7_26⟩) (by assumption) ?r7_26
              case y7_26 => intro w hSw; (try dsimp only at hSw); go_simp; try with_reducible rfl
              try simp only [Act.put, List.setIfInBounds_toArray, List.set_cons_zero, List.set_cons_succ]
              refine wpAnyH_take (i := 8) (oi := { dst := some 59, op := Op.move (Operand.tmp 0), type := 22, pos := "law.go:118", after := #[{ on := 7, ground := Ground.guard }], guard := some (7, false) }) (v := undef) rfl (by kernel_rfl) (by kernel_rfl) (by kernel_rfl) (fun _ _ _ h => h) (Or.inr ⟨by rfl, rfl⟩) (by assumption) ?_
              try simp only [Act.put, List.setIfInBounds_toArray, List.set_cons_zero, List.set_cons_succ]
              refine wpAnyH_take (i := 9) (oi := { dst := some 60, op := Op.move (Operand.tmp 5), type := 3, pos := "law.go:118", after := #[{ on := 7, ground := Ground.guard }], guard := some (7, false) }) (v := undef) rfl (by kernel_rfl) (by kernel_rfl) (by kernel_rfl) (fun _ _ _ h => h) (Or.inr ⟨by rfl, rfl⟩) (by assumption) ?_
              try simp only [Act.put, List.setIfInBounds_toArray, List.set_cons_zero, List.set_cons_succ]
              refine wpAnyH_take (i := 10) (oi := { dst := some 61, op := Op.slice 22 (Operand.tmp 59) (some (Operand.tmp 60)) none none, type := 22, pos := "law.go:118", after := #[{ on := 8, ground := Ground.data }, { on := 9, ground := Ground.data }, { on := 7, ground := Ground.guard }], guard := some (7, false) }) (v := undef) rfl (by kernel_rfl) (by kernel_rfl) (by kernel_rfl) (fun _ _ _ h => h) (Or.inr ⟨by rfl, rfl⟩) (by assumption) ?_
              try simp only [Act.put, List.setIfInBounds_toArray, List.set_cons_zero, List.set_cons_succ]
              refine wpAnyH_take (i := 11) (oi := { dst := some 62, op := Op.move (Operand.tmp 1), type := 22, pos := "law.go:118", after := #[{ on := 7, ground := Ground.guard }], guard := some (7, false) }) (v := undef) rfl (by kernel_rfl) (by kernel_rfl) (by kernel_rfl) (fun _ _ _ h => h) (Or.inr ⟨by rfl, rfl⟩) (by assumption) ?_
              try simp only [Act.put, List.setIfInBounds_toArray, List.set_cons_zero, List.set_cons_succ]
              refine wpAnyH_take (i := 12) (oi := { dst := some 63, op := Op.move (Operand.tmp 5), type := 3, pos := "law.go:118", after := #[{ on := 7, ground := Ground.guard }], guard := some (7, false) }) (v := undef) rfl (by kernel_rfl) (by kernel_rfl) (by kernel_rfl) (fun _ _ _ h => h) (Or.inr ⟨by rfl, rfl⟩) (by assumption) ?_
              try simp only [Act.put, List.setIfInBounds_toArray, List.set_cons_zero, List.set_cons_succ]
              refine wpAnyH_take (i := 13) (oi := { dst := some 64, op := Op.slice 22 (Operand.tmp 62) (some (Operand.tmp 63)) none none, type := 22, pos := "law.go:118", after := #[{ on := 11, ground := Ground.data }, { on := 12, ground := Ground.data }, { on := 7, ground := Ground.guard }], guard := some (7, false) }) (v := undef) rfl (by kernel_rfl) (by kernel_rfl) (by kernel_rfl) (fun _ _ _ h => h) (Or.inr ⟨by rfl, rfl⟩) (by assumption) ?_
              try simp only [Act.put, List.setIfInBounds_toArray, List.set_cons_zero, List.set_cons_succ]
              refine wpAnyH_take (i := 14) (oi := { dst := some 65, op := Op.call { callee := Callee.value (Operand.func 23), args := #[Operand.tmp 61, Operand.tmp 64], argTypes := #[22, 22] }, type := 4, pos := "law.go:118", after := #[{ on := 10, ground := Ground.data }, { on := 13, ground := Ground.data }, { on := 7, ground := Ground.chain }, { on := 7, ground := Ground.guard }], guard := some (7, false) }) (v := undef) rfl (by kernel_rfl) (by kernel_rfl) (by kernel_rfl) (fun _ _ _ h => h) (Or.inr ⟨by rfl, rfl⟩) (by assumption) ?_
              try simp only [Act.put, List.setIfInBounds_toArray, List.set_cons_zero, List.set_cons_succ]
              refine wpAnyH_take (i := 15) (oi := { dst := some 66, op := Op.pick (Operand.tmp 58) (Operand.const (Value.bool true)) (Operand.tmp 65), type := 4, pos := "law.go:118", after := #[{ on := 7, ground := Ground.data }, { on := 14, ground := Ground.data }], guard := none }) (v := ?v15_27) rfl (by kernel_rfl) (by kernel_rfl) (by kernel_rfl) (fun _ _ _ h => h) (Or.inl ⟨by rfl, ?y15_27⟩) (by assumption) ?r15_27
              case y15_27 => intro w hSw; (try dsimp only at hSw); go_simp; try with_reducible rfl
              try simp only [Act.put, List.setIfInBounds_toArray, List.set_cons_zero, List.set_cons_succ]
              refine wpAnyH_take (i := 16) (oi := { dst := some 4, op := Op.assign (Operand.tmp 66), type := 4, pos := "law.go:118", after := #[{ on := 15, ground := Ground.data }, { on := 14, ground := Ground.chain }, { on := 0, ground := Ground.phase }, { on := 1, ground := Ground.phase }, { on := 2, ground := Ground.phase }, { on := 3, ground := Ground.phase }, { on := 4, ground := Ground.phase }, { on := 5, ground := Ground.phase }, { on := 6, ground := Ground.phase }, { on := 7, ground := Ground.phase }, { on := 8, ground := Ground.phase }, { on := 9, ground := Ground.phase }, { on := 10, ground := Ground.phase }, { on := 11, ground := Ground.phase }, { on := 12, ground := Ground.phase }, { on := 13, ground := Ground.phase }, { on := 14, ground := Ground.phase }, { on := 15, ground := Ground.phase }], guard := none }) (v := ?v16_28) rfl (by kernel_rfl) (by kernel_rfl) (by kernel_rfl) (fun _ _ _ h => h) (Or.inl ⟨by rfl, ?y16_28⟩) (by assumption) ?r16_28
              case y16_28 => intro w hSw; (try dsimp only at hSw); go_simp; try with_reducible rfl
              try simp only [Act.put, List.setIfInBounds_toArray, List.set_cons_zero, List.set_cons_succ]
              refine wpAnyH_done (by kernel_rfl) ?_ _
              refine NoPanic.normal ?_
              have HB := Lib.hid hHeld.bel
              clear hHeld
              go_wp2
              go_ret
              exact ⟨rfl, by rw [HA.out]; exact HB.out⟩
            | true =>
              obtain rfl : res = !e2 := by rw [← hres]; rfl
              refine wp_region_noPanic ?_
              refine wp_region_held_drew (S := (fun w' => Mine A w w')) (by kernel_rfl) ?_ (fun hHeld => ?_)
              · exact ⟨M7.out.le, M7.out.bel.drew⟩
              refine wpAnyH_take (i := 0) (oi := { dst := some 51, op := Op.move (Operand.tmp 0), type := 22, pos := "law.go:118", after := #[], guard := none }) (v := ?v0_29) rfl (by kernel_rfl) (by kernel_rfl) (by kernel_rfl) (fun _ _ _ h => h) (Or.inl ⟨by rfl, ?y0_29⟩) (by assumption) ?r0_29
              case y0_29 => intro w hSw; (try dsimp only at hSw); go_simp; try with_reducible rfl
              try simp only [Act.put, List.setIfInBounds_toArray, List.set_cons_zero, List.set_cons_succ]
              refine wpAnyH_take (i := 1) (oi := { dst := some 52, op := Op.move (Operand.tmp 5), type := 3, pos := "law.go:118", after := #[], guard := none }) (v := ?v1_30) rfl (by kernel_rfl) (by kernel_rfl) (by kernel_rfl) (fun _ _ _ h => h) (Or.inl ⟨by rfl, ?y1_30⟩) (by assumption) ?r1_30
              case y1_30 => intro w hSw; (try dsimp only at hSw); go_simp; try with_reducible rfl
              try simp only [Act.put, List.setIfInBounds_toArray, List.set_cons_zero, List.set_cons_succ]
              refine wpAnyH_take (i := 2) (oi := { dst := some 53, op := Op.slice 22 (Operand.tmp 51) none (some (Operand.tmp 52)) none, type := 22, pos := "law.go:118", after := #[{ on := 0, ground := Ground.data }, { on := 1, ground := Ground.data }], guard := none }) (v := ?v2_31) rfl (by kernel_rfl) (by kernel_rfl) (by kernel_rfl) (fun _ _ _ h => h) (Or.inl ⟨by rfl, ?y2_31⟩) (by assumption) ?r2_31
              case y2_31 => intro w hSw; (try dsimp only at hSw); go_simp; try with_reducible rfl
              try simp only [Act.put, List.setIfInBounds_toArray, List.set_cons_zero, List.set_cons_succ]
              refine wpAnyH_take (i := 3) (oi := { dst := some 54, op := Op.move (Operand.tmp 1), type := 22, pos := "law.go:118", after := #[], guard := none }) (v := ?v3_32) rfl (by kernel_rfl) (by kernel_rfl) (by kernel_rfl) (fun _ _ _ h => h) (Or.inl ⟨by rfl, ?y3_32⟩) (by assumption) ?r3_32
              case y3_32 => intro w hSw; (try dsimp only at hSw); go_simp; try with_reducible rfl
              try simp only [Act.put, List.setIfInBounds_toArray, List.set_cons_zero, List.set_cons_succ]
              refine wpAnyH_take (i := 4) (oi := { dst := some 55, op := Op.move (Operand.tmp 5), type := 3, pos := "law.go:118", after := #[], guard := none }) (v := ?v4_33) rfl (by kernel_rfl) (by kernel_rfl) (by kernel_rfl) (fun _ _ _ h => h) (Or.inl ⟨by rfl, ?y4_33⟩) (by assumption) ?r4_33
              case y4_33 => intro w hSw; (try dsimp only at hSw); go_simp; try with_reducible rfl
              try simp only [Act.put, List.setIfInBounds_toArray, List.set_cons_zero, List.set_cons_succ]
              refine wpAnyH_take (i := 5) (oi := { dst := some 56, op := Op.slice 22 (Operand.tmp 54) none (some (Operand.tmp 55)) none, type := 22, pos := "law.go:118", after := #[{ on := 3, ground := Ground.data }, { on := 4, ground := Ground.data }], guard := none }) (v := ?v5_34) rfl (by kernel_rfl) (by kernel_rfl) (by kernel_rfl) (fun _ _ _ h => h) (Or.inl ⟨by rfl, ?y5_34⟩) (by assumption) ?r5_34
              case y5_34 => intro w hSw; (try dsimp only at hSw); go_simp; try with_reducible rfl
              try simp only [Act.put, List.setIfInBounds_toArray, List.set_cons_zero, List.set_cons_succ]
              refine wpAnyH_ready (rs := [6]) (by kernel_rfl) (by simp) (AllReadyH.cons (o := { dst := some 57, op := Op.call { callee := Callee.value (Operand.func 23), args := #[Operand.tmp 53, Operand.tmp 56], argTypes := #[22, 22] }, type := 4, pos := "law.go:118", after := #[{ on := 2, ground := Ground.data }, { on := 5, ground := Ground.data }], guard := none }) rfl (fun K hK => ?_) AllReadyH.nil)
              go_simp
              refine (j1.out _ hHeld.bel).mono ?_; rintro e w6 ⟨rfl, hbw6⟩
              go_wp2_with fail
              refine hK.out _ _ ?_ (fun hHeld => ?_)
              · (try dsimp only); (go_split_ands; (repeat' apply And.intro) <;> first | assumption | exact Mine.call (by assumption) (by assumption) | exact Mine.alloc (by assumption) _ | exact Mine.setCells (by assumption) _ _ _ (by omega) | exact Mine.callN (by assumption) (by assumption) (by omega) | exact Row.belowN (by assumption) (by assumption) (by omega) | exact there_belowN (by assumption) (by assumption) (by omega) | exact rangeAt_below (by assumption) (by assumption) | exact World.rangeAt_alloc (by assumption) _ | exact World.rangeAt_setCells_apart (by assumption) _ _ _ (Or.inl (by omega)) | exact there_below (by assumption) (by assumption) | exact World.there_alloc (by assumption) _ | exact World.there_setCells (by assumption) _ _ _ | exact Row.belowS (by assumption) (by assumption) | exact Row.alloc (by assumption) _ | exact Row.setCells (by assumption) _ _ (by omega) | exact HS.below (by assumption) (by assumption) | exact SB.below (by assumption) (by assumption) | exact HS.alloc (by assumption) _)
              clear hK K
              try simp only [Act.put, List.setIfInBounds_toArray, List.set_cons_zero, List.set_cons_succ]
              refine wpAnyH_take (i := 7) (oi := { dst := some 58, op := Op.move (Operand.tmp 57), type := 4, pos := "law.go:118", after := #[{ on := 6, ground := Ground.data }, { on := 6, ground := Ground.chain }], guard := none }) (v := ?v7_35) rfl (by kernel_rfl) (by kernel_rfl) (by kernel_rfl) (fun _ _ _ h => h) (Or.inl ⟨by rfl, ?y7_35⟩) (by assumption) ?r7_35
              case y7_35 => intro w hSw; (try dsimp only at hSw); go_simp; try with_reducible rfl
              try simp only [Act.put, List.setIfInBounds_toArray, List.set_cons_zero, List.set_cons_succ]
              refine wpAnyH_take (i := 8) (oi := { dst := some 59, op := Op.move (Operand.tmp 0), type := 22, pos := "law.go:118", after := #[{ on := 7, ground := Ground.guard }], guard := some (7, false) }) (v := ?v8_36) rfl (by kernel_rfl) (by kernel_rfl) (by kernel_rfl) (fun _ _ _ h => h) (Or.inl ⟨by rfl, ?y8_36⟩) (by assumption) ?r8_36
              case y8_36 => intro w hSw; (try dsimp only at hSw); go_simp; try with_reducible rfl
              try simp only [Act.put, List.setIfInBounds_toArray, List.set_cons_zero, List.set_cons_succ]
              refine wpAnyH_take (i := 9) (oi := { dst := some 60, op := Op.move (Operand.tmp 5), type := 3, pos := "law.go:118", after := #[{ on := 7, ground := Ground.guard }], guard := some (7, false) }) (v := ?v9_37) rfl (by kernel_rfl) (by kernel_rfl) (by kernel_rfl) (fun _ _ _ h => h) (Or.inl ⟨by rfl, ?y9_37⟩) (by assumption) ?r9_37
              case y9_37 => intro w hSw; (try dsimp only at hSw); go_simp; try with_reducible rfl
              try simp only [Act.put, List.setIfInBounds_toArray, List.set_cons_zero, List.set_cons_succ]
              refine wpAnyH_take (i := 10) (oi := { dst := some 61, op := Op.slice 22 (Operand.tmp 59) (some (Operand.tmp 60)) none none, type := 22, pos := "law.go:118", after := #[{ on := 8, ground := Ground.data }, { on := 9, ground := Ground.data }, { on := 7, ground := Ground.guard }], guard := some (7, false) }) (v := ?v10_38) rfl (by kernel_rfl) (by kernel_rfl) (by kernel_rfl) (fun _ _ _ h => h) (Or.inl ⟨by rfl, ?y10_38⟩) (by assumption) ?r10_38
              case y10_38 => intro w hSw; (try dsimp only at hSw); go_simp; try with_reducible rfl
              try simp only [Act.put, List.setIfInBounds_toArray, List.set_cons_zero, List.set_cons_succ]
              refine wpAnyH_take (i := 11) (oi := { dst := some 62, op := Op.move (Operand.tmp 1), type := 22, pos := "law.go:118", after := #[{ on := 7, ground := Ground.guard }], guard := some (7, false) }) (v := ?v11_39) rfl (by kernel_rfl) (by kernel_rfl) (by kernel_rfl) (fun _ _ _ h => h) (Or.inl ⟨by rfl, ?y11_39⟩) (by assumption) ?r11_39
              case y11_39 => intro w hSw; (try dsimp only at hSw); go_simp; try with_reducible rfl
              try simp only [Act.put, List.setIfInBounds_toArray, List.set_cons_zero, List.set_cons_succ]
              refine wpAnyH_take (i := 12) (oi := { dst := some 63, op := Op.move (Operand.tmp 5), type := 3, pos := "law.go:118", after := #[{ on := 7, ground := Ground.guard }], guard := some (7, false) }) (v := ?v12_40) rfl (by kernel_rfl) (by kernel_rfl) (by kernel_rfl) (fun _ _ _ h => h) (Or.inl ⟨by rfl, ?y12_40⟩) (by assumption) ?r12_40
              case y12_40 => intro w hSw; (try dsimp only at hSw); go_simp; try with_reducible rfl
              try simp only [Act.put, List.setIfInBounds_toArray, List.set_cons_zero, List.set_cons_succ]
              refine wpAnyH_take (i := 13) (oi := { dst := some 64, op := Op.slice 22 (Operand.tmp 62) (some (Operand.tmp 63)) none none, type := 22, pos := "law.go:118", after := #[{ on := 11, ground := Ground.data }, { on := 12, ground := Ground.data }, { on := 7, ground := Ground.guard }], guard := some (7, false) }) (v := ?v13_41) rfl (by kernel_rfl) (by kernel_rfl) (by kernel_rfl) (fun _ _ _ h => h) (Or.inl ⟨by rfl, ?y13_41⟩) (by assumption) ?r13_41
              case y13_41 => intro w hSw; (try dsimp only at hSw); go_simp; try with_reducible rfl
              try simp only [Act.put, List.setIfInBounds_toArray, List.set_cons_zero, List.set_cons_succ]
              refine wpAnyH_ready (rs := [14]) (by kernel_rfl) (by simp) (AllReadyH.cons (o := { dst := some 65, op := Op.call { callee := Callee.value (Operand.func 23), args := #[Operand.tmp 61, Operand.tmp 64], argTypes := #[22, 22] }, type := 4, pos := "law.go:118", after := #[{ on := 10, ground := Ground.data }, { on := 13, ground := Ground.data }, { on := 7, ground := Ground.chain }, { on := 7, ground := Ground.guard }], guard := some (7, false) }) rfl (fun K hK => ?_) AllReadyH.nil)
              go_simp
              refine (j2.out _ hHeld.bel).mono ?_; rintro e w7 ⟨rfl, hbw7⟩
              go_wp2_with fail
              refine hK.out _ _ ?_ (fun hHeld => ?_)
              · (try dsimp only); (go_split_ands; (repeat' apply And.intro) <;> first | assumption | exact Mine.call (by assumption) (by assumption) | exact Mine.alloc (by assumption) _ | exact Mine.setCells (by assumption) _ _ _ (by omega) | exact Mine.callN (by assumption) (by assumption) (by omega) | exact Row.belowN (by assumption) (by assumption) (by omega) | exact there_belowN (by assumption) (by assumption) (by omega) | exact rangeAt_below (by assumption) (by assumption) | exact World.rangeAt_alloc (by assumption) _ | exact World.rangeAt_setCells_apart (by assumption) _ _ _ (Or.inl (by omega)) | exact there_below (by assumption) (by assumption) | exact World.there_alloc (by assumption) _ | exact World.there_setCells (by assumption) _ _ _ | exact Row.belowS (by assumption) (by assumption) | exact Row.alloc (by assumption) _ | exact Row.setCells (by assumption) _ _ (by omega) | exact HS.below (by assumption) (by assumption) | exact SB.below (by assumption) (by assumption) | exact HS.alloc (by assumption) _)
              clear hK K
              try simp only [Act.put, List.setIfInBounds_toArray, List.set_cons_zero, List.set_cons_succ]
              refine wpAnyH_take (i := 15) (oi := { dst := some 66, op := Op.pick (Operand.tmp 58) (Operand.const (Value.bool true)) (Operand.tmp 65), type := 4, pos := "law.go:118", after := #[{ on := 7, ground := Ground.data }, { on := 14, ground := Ground.data }], guard := none }) (v := ?v15_42) rfl (by kernel_rfl) (by kernel_rfl) (by kernel_rfl) (fun _ _ _ h => h) (Or.inl ⟨by rfl, ?y15_42⟩) (by assumption) ?r15_42
              case y15_42 => intro w hSw; (try dsimp only at hSw); go_simp; try with_reducible rfl
              try simp only [Act.put, List.setIfInBounds_toArray, List.set_cons_zero, List.set_cons_succ]
              refine wpAnyH_take (i := 16) (oi := { dst := some 4, op := Op.assign (Operand.tmp 66), type := 4, pos := "law.go:118", after := #[{ on := 15, ground := Ground.data }, { on := 14, ground := Ground.chain }, { on := 0, ground := Ground.phase }, { on := 1, ground := Ground.phase }, { on := 2, ground := Ground.phase }, { on := 3, ground := Ground.phase }, { on := 4, ground := Ground.phase }, { on := 5, ground := Ground.phase }, { on := 6, ground := Ground.phase }, { on := 7, ground := Ground.phase }, { on := 8, ground := Ground.phase }, { on := 9, ground := Ground.phase }, { on := 10, ground := Ground.phase }, { on := 11, ground := Ground.phase }, { on := 12, ground := Ground.phase }, { on := 13, ground := Ground.phase }, { on := 14, ground := Ground.phase }, { on := 15, ground := Ground.phase }], guard := none }) (v := ?v16_43) rfl (by kernel_rfl) (by kernel_rfl) (by kernel_rfl) (fun _ _ _ h => h) (Or.inl ⟨by rfl, ?y16_43⟩) (by assumption) ?r16_43
              case y16_43 => intro w hSw; (try dsimp only at hSw); go_simp; try with_reducible rfl
              try simp only [Act.put, List.setIfInBounds_toArray, List.set_cons_zero, List.set_cons_succ]
              refine wpAnyH_done (by kernel_rfl) ?_ _
              refine NoPanic.normal ?_
              have HB := Lib.hid hHeld.bel
              clear hHeld
              go_wp2
              go_ret
              exact ⟨rfl, by rw [HA.out]; exact HB.out⟩
        refine wp_region_noPanic ?_
        refine wp_region_held_drew (S := (fun w' => Mine A w w' ∧ w'.there B6 0 64 ∧ w'.rangeAt B6 0 pa)) (by kernel_rfl) ?_ (fun hHeld => ?_)
        · exact ⟨⟨M6.out.le, M6.out.bel.drew⟩, (World.there_drew _ _ _ _).2 HT6.out, (World.rangeAt_drew _ _ _ _).2 HR6.out⟩
        refine wpAnyH_take (i := 0) (oi := { dst := some 28, op := Op.move (Operand.tmp 1), type := 22, pos := "law.go:114", after := #[], guard := none }) (v := ?v0_44) rfl (by kernel_rfl) (by kernel_rfl) (by kernel_rfl) (fun _ _ _ h => h) (Or.inl ⟨by rfl, ?y0_44⟩) (by assumption) ?r0_44
        case y0_44 => intro w hSw; (try dsimp only at hSw); go_simp; try with_reducible rfl
        try simp only [Act.put, List.setIfInBounds_toArray, List.set_cons_zero, List.set_cons_succ]
        refine wpAnyH_take (i := 1) (oi := { dst := some 29, op := Op.move (Operand.tmp 5), type := 3, pos := "law.go:114", after := #[], guard := none }) (v := ?v1_45) rfl (by kernel_rfl) (by kernel_rfl) (by kernel_rfl) (fun _ _ _ h => h) (Or.inl ⟨by rfl, ?y1_45⟩) (by assumption) ?r1_45
        case y1_45 => intro w hSw; (try dsimp only at hSw); go_simp; try with_reducible rfl
        try simp only [Act.put, List.setIfInBounds_toArray, List.set_cons_zero, List.set_cons_succ]
        refine wpAnyH_take (i := 2) (oi := { dst := some 30, op := Op.slice 22 (Operand.tmp 28) none (some (Operand.tmp 29)) none, type := 22, pos := "law.go:114", after := #[{ on := 0, ground := Ground.data }, { on := 1, ground := Ground.data }], guard := none }) (v := ?v2_46) rfl (by kernel_rfl) (by kernel_rfl) (by kernel_rfl) (fun _ _ _ h => h) (Or.inl ⟨by rfl, ?y2_46⟩) (by assumption) ?r2_46
        case y2_46 => intro w hSw; (try dsimp only at hSw); go_simp; try with_reducible rfl
        try simp only [Act.put, List.setIfInBounds_toArray, List.set_cons_zero, List.set_cons_succ]
        refine wpAnyH_take (i := 4) (oi := { dst := some 32, op := Op.move (Operand.tmp 1), type := 22, pos := "law.go:114", after := #[], guard := none }) (v := ?v4_47) rfl (by kernel_rfl) (by kernel_rfl) (by kernel_rfl) (fun _ _ _ h => h) (Or.inl ⟨by rfl, ?y4_47⟩) (by assumption) ?r4_47
        case y4_47 => intro w hSw; (try dsimp only at hSw); go_simp; try with_reducible rfl
        try simp only [Act.put, List.setIfInBounds_toArray, List.set_cons_zero, List.set_cons_succ]
        refine wpAnyH_take (i := 5) (oi := { dst := some 33, op := Op.move (Operand.tmp 5), type := 3, pos := "law.go:114", after := #[], guard := none }) (v := ?v5_48) rfl (by kernel_rfl) (by kernel_rfl) (by kernel_rfl) (fun _ _ _ h => h) (Or.inl ⟨by rfl, ?y5_48⟩) (by assumption) ?r5_48
        case y5_48 => intro w hSw; (try dsimp only at hSw); go_simp; try with_reducible rfl
        try simp only [Act.put, List.setIfInBounds_toArray, List.set_cons_zero, List.set_cons_succ]
        refine wpAnyH_take (i := 6) (oi := { dst := some 34, op := Op.slice 22 (Operand.tmp 32) (some (Operand.tmp 33)) none none, type := 22, pos := "law.go:114", after := #[{ on := 4, ground := Ground.data }, { on := 5, ground := Ground.data }], guard := none }) (v := ?v6_49) rfl (by kernel_rfl) (by kernel_rfl) (by kernel_rfl) (fun _ _ _ h => h) (Or.inl ⟨by rfl, ?y6_49⟩) (by assumption) ?r6_49
        case y6_49 => intro w hSw; (try dsimp only at hSw); go_simp; try with_reducible rfl
        try simp only [Act.put, List.setIfInBounds_toArray, List.set_cons_zero, List.set_cons_succ]
        refine wpAnyH_ready (rs := [3, 9]) (by kernel_rfl) (by simp) (AllReadyH.cons (o := { dst := some 31, op := Op.call { callee := Callee.value (Operand.func 27), args := #[Operand.tmp 30], argTypes := #[22] }, type := 23, pos := "law.go:114", after := #[{ on := 2, ground := Ground.data }], guard := none }) rfl (fun K hK => ?_) (AllReadyH.cons (o := { dst := some 7, op := Op.alloc 51, type := 0, pos := "law.go:114", after := #[], guard := none }) rfl (fun K hK => ?_) (AllReadyH.nil)))
        ·
          go_simp
          refine (Q3.out _ (by go_split_ands; exact Mine.bel (by assumption))).mono ?_; rintro e w4 ⟨rfl, hbw4⟩
          go_wp2_with fail
          refine hK.out _ _ ?_ (fun hHeld => ?_)
          · (try dsimp only); (go_split_ands; (repeat' apply And.intro) <;> first | assumption | exact Mine.call (by assumption) (by assumption) | exact Mine.alloc (by assumption) _ | exact Mine.setCells (by assumption) _ _ _ (by omega) | exact Mine.callN (by assumption) (by assumption) (by omega) | exact Row.belowN (by assumption) (by assumption) (by omega) | exact there_belowN (by assumption) (by assumption) (by omega) | exact rangeAt_below (by assumption) (by assumption) | exact World.rangeAt_alloc (by assumption) _ | exact World.rangeAt_setCells_apart (by assumption) _ _ _ (Or.inl (by omega)) | exact there_below (by assumption) (by assumption) | exact World.there_alloc (by assumption) _ | exact World.there_setCells (by assumption) _ _ _ | exact Row.belowS (by assumption) (by assumption) | exact Row.alloc (by assumption) _ | exact Row.setCells (by assumption) _ _ (by omega) | exact HS.below (by assumption) (by assumption) | exact SB.below (by assumption) (by assumption) | exact HS.alloc (by assumption) _)
          clear hK K
          try simp only [Act.put, List.setIfInBounds_toArray, List.set_cons_zero, List.set_cons_succ]
          refine wpAnyH_ready (rs := [7, 9]) (by kernel_rfl) (by simp) (AllReadyH.cons (o := { dst := some 35, op := Op.call { callee := Callee.value (Operand.func 27), args := #[Operand.tmp 34], argTypes := #[22] }, type := 23, pos := "law.go:114", after := #[{ on := 6, ground := Ground.data }, { on := 3, ground := Ground.chain }], guard := none }) rfl (fun K hK => ?_) (AllReadyH.cons (o := { dst := some 7, op := Op.alloc 51, type := 0, pos := "law.go:114", after := #[], guard := none }) rfl (fun K hK => ?_) (AllReadyH.nil)))
          ·
            go_simp
            refine (Q4.out _ (by go_split_ands; exact Mine.bel (by assumption))).mono ?_; rintro e w5 ⟨rfl, hbw5⟩
            go_wp2_with fail
            refine hK.out _ _ ?_ (fun hHeld => ?_)
            · (try dsimp only); (go_split_ands; (repeat' apply And.intro) <;> first | assumption | exact Mine.call (by assumption) (by assumption) | exact Mine.alloc (by assumption) _ | exact Mine.setCells (by assumption) _ _ _ (by omega) | exact Mine.callN (by assumption) (by assumption) (by omega) | exact Row.belowN (by assumption) (by assumption) (by omega) | exact there_belowN (by assumption) (by assumption) (by omega) | exact rangeAt_below (by assumption) (by assumption) | exact World.rangeAt_alloc (by assumption) _ | exact World.rangeAt_setCells_apart (by assumption) _ _ _ (Or.inl (by omega)) | exact there_below (by assumption) (by assumption) | exact World.there_alloc (by assumption) _ | exact World.there_setCells (by assumption) _ _ _ | exact Row.belowS (by assumption) (by assumption) | exact Row.alloc (by assumption) _ | exact Row.setCells (by assumption) _ _ (by omega) | exact HS.below (by assumption) (by assumption) | exact SB.below (by assumption) (by assumption) | exact HS.alloc (by assumption) _)
            clear hK K
            try simp only [Act.put, List.setIfInBounds_toArray, List.set_cons_zero, List.set_cons_succ]
            refine wpAnyH_take (i := 8) (oi := { dst := some 36, op := Op.build 51 #[(0, Operand.tmp 31), (1, Operand.tmp 35)], type := 51, pos := "law.go:114", after := #[{ on := 3, ground := Ground.data }, { on := 7, ground := Ground.data }], guard := none }) (v := _) rfl (by kernel_rfl) (by kernel_rfl) (by kernel_rfl) (fun _ _ _ h => h) (yields_build_pair rfl _ _ rfl rfl rfl AA.out.2.1 AA.out.2.2) (by assumption) ?_
            try simp only [Act.put, List.setIfInBounds_toArray, List.set_cons_zero, List.set_cons_succ]
            refine wpAnyH_ready (rs := [9]) (by kernel_rfl) (by simp) (AllReadyH.cons (o := { dst := some 7, op := Op.alloc 51, type := 0, pos := "law.go:114", after := #[], guard := none }) rfl (fun K hK => ?_) (AllReadyH.nil))
            go_simp
            have hOld := hHeld
            refine hK.out _ _ ?_ (fun hHeld => ?_)
            · (try dsimp only); (go_split_ands; (repeat' apply And.intro) <;> first | assumption | exact Mine.call (by assumption) (by assumption) | exact Mine.alloc (by assumption) _ | exact Mine.setCells (by assumption) _ _ _ (by omega) | exact Mine.callN (by assumption) (by assumption) (by omega) | exact Row.belowN (by assumption) (by assumption) (by omega) | exact there_belowN (by assumption) (by assumption) (by omega) | exact rangeAt_below (by assumption) (by assumption) | exact World.rangeAt_alloc (by assumption) _ | exact World.rangeAt_setCells_apart (by assumption) _ _ _ (Or.inl (by omega)) | exact there_below (by assumption) (by assumption) | exact World.there_alloc (by assumption) _ | exact World.there_setCells (by assumption) _ _ _ | exact Row.belowS (by assumption) (by assumption) | exact Row.alloc (by assumption) _ | exact Row.setCells (by assumption) _ _ (by omega) | exact HS.below (by assumption) (by assumption) | exact SB.below (by assumption) (by assumption) | exact HS.alloc (by assumption) _)
            clear hK K
            try simp only [Act.put, List.setIfInBounds_toArray, List.set_cons_zero, List.set_cons_succ]
            obtain ⟨B7, hB7⟩ : ∃ B, w5.heap.size = B := ⟨_, rfl⟩
            try rw [hB7]
            refine wpAnyH_with (E := fun w' => w'.there B7 0 64 ∧ B6 + 1 ≤ B7) (by (try dsimp only); refine ⟨?_, ?_⟩ <;> rw [← hB7] <;> first | exact pair_there _ | exact (World.there_drew _ _ _ _).2 (pair_there _) | assumption | (first | exact there_lt (by assumption) | (go_split_ands; exact there_lt (by assumption)) | (have hq := there_lt HT6.out; omega))) hHeld (fun hHeld => ?_)
            try dsimp only at hHeld
            rw [HPB.out]; have hi := UU.out.2; have hh1 := PP.out.2; have hol := TT.out.2
            have hPre := hHeld
            refine wpAnyH_ready (rs := [10]) (by kernel_rfl) (by simp) (AllReadyH.cons (o := { dst := none, op := Op.store 51 (Operand.tmp 7) (Operand.tmp 36), type := 0, pos := "law.go:114", after := #[{ on := 9, ground := Ground.data }, { on := 8, ground := Ground.data }, { on := 7, ground := Ground.chain }, { on := 0, ground := Ground.phase }, { on := 1, ground := Ground.phase }, { on := 2, ground := Ground.phase }, { on := 3, ground := Ground.phase }, { on := 4, ground := Ground.phase }, { on := 5, ground := Ground.phase }, { on := 6, ground := Ground.phase }, { on := 7, ground := Ground.phase }, { on := 8, ground := Ground.phase }, { on := 9, ground := Ground.phase }], guard := none }) rfl (fun K hK => ?_) AllReadyH.nil)
            rw [if_pos (by rfl)]
            refine wp_store_mid _ _ _ rfl _ _ (List.toArray _) rfl rfl (by go_split_ands; first | assumption | (simp only [List.size_toArray, *] <;> assumption)) (by first | assumption | (simp only [List.size_toArray] <;> assumption) | (simp only [List.size_toArray, *]; done)) (all_oneCell_toArray (by assumption)) ?_
            simp only [Act.put, List.setIfInBounds_toArray, List.set_cons_zero, List.set_cons_succ, List.toList_toArray]
            refine hK.out _ _ ?_ (fun hHeld => ?_)
            · (try dsimp only); (go_split_ands; (repeat' apply And.intro) <;> first | assumption | exact Mine.call (by assumption) (by assumption) | exact Mine.alloc (by assumption) _ | exact Mine.setCells (by assumption) _ _ _ (by omega) | exact Mine.callN (by assumption) (by assumption) (by omega) | exact Row.belowN (by assumption) (by assumption) (by omega) | exact there_belowN (by assumption) (by assumption) (by omega) | exact rangeAt_below (by assumption) (by assumption) | exact World.rangeAt_alloc (by assumption) _ | exact World.rangeAt_setCells_apart (by assumption) _ _ _ (Or.inl (by omega)) | exact there_below (by assumption) (by assumption) | exact World.there_alloc (by assumption) _ | exact World.there_setCells (by assumption) _ _ _ | exact Row.belowS (by assumption) (by assumption) | exact Row.alloc (by assumption) _ | exact Row.setCells (by assumption) _ _ (by omega) | exact HS.below (by assumption) (by assumption) | exact SB.below (by assumption) (by assumption) | exact HS.alloc (by assumption) _)
            clear hK K
            refine wpAnyH_done (by kernel_rfl) ?_ _
            refine NoPanic.normal ?_
            exact key7 B7 _ hHeld.2.2 hHeld.1.1 hHeld.1.2.2 (World.rangeAt_setCells_same _ B7 0 pb (by rw [TT.out.2]; exact hPre.2.1))
          ·
            go_simp
            have hOld := hHeld
            refine hK.out _ _ ?_ (fun hHeld => ?_)
            · (try dsimp only); (go_split_ands; (repeat' apply And.intro) <;> first | assumption | exact Mine.call (by assumption) (by assumption) | exact Mine.alloc (by assumption) _ | exact Mine.setCells (by assumption) _ _ _ (by omega) | exact Mine.callN (by assumption) (by assumption) (by omega) | exact Row.belowN (by assumption) (by assumption) (by omega) | exact there_belowN (by assumption) (by assumption) (by omega) | exact rangeAt_below (by assumption) (by assumption) | exact World.rangeAt_alloc (by assumption) _ | exact World.rangeAt_setCells_apart (by assumption) _ _ _ (Or.inl (by omega)) | exact there_below (by assumption) (by assumption) | exact World.there_alloc (by assumption) _ | exact World.there_setCells (by assumption) _ _ _ | exact Row.belowS (by assumption) (by assumption) | exact Row.alloc (by assumption) _ | exact Row.setCells (by assumption) _ _ (by omega) | exact HS.below (by assumption) (by assumption) | exact SB.below (by assumption) (by assumption) | exact HS.alloc (by assumption) _)
            clear hK K
            try simp only [Act.put, List.setIfInBounds_toArray, List.set_cons_zero, List.set_cons_succ]
            obtain ⟨B7, hB7⟩ : ∃ B, w4.heap.size = B := ⟨_, rfl⟩
            try rw [hB7]
            refine wpAnyH_with (E := fun w' => w'.there B7 0 64 ∧ B6 + 1 ≤ B7) (by (try dsimp only); refine ⟨?_, ?_⟩ <;> rw [← hB7] <;> first | exact pair_there _ | exact (World.there_drew _ _ _ _).2 (pair_there _) | assumption | (first | exact there_lt (by assumption) | (go_split_ands; exact there_lt (by assumption)) | (have hq := there_lt HT6.out; omega))) hHeld (fun hHeld => ?_)
            try dsimp only at hHeld
            refine wpAnyH_ready (rs := [7]) (by kernel_rfl) (by simp) (AllReadyH.cons (o := { dst := some 35, op := Op.call { callee := Callee.value (Operand.func 27), args := #[Operand.tmp 34], argTypes := #[22] }, type := 23, pos := "law.go:114", after := #[{ on := 6, ground := Ground.data }, { on := 3, ground := Ground.chain }], guard := none }) rfl (fun K hK => ?_) AllReadyH.nil)
            go_simp
            refine (Q4.out _ (by go_split_ands; exact Mine.bel (by assumption))).mono ?_; rintro e w5 ⟨rfl, hbw5⟩
            go_wp2_with fail
            refine hK.out _ _ ?_ (fun hHeld => ?_)
            · (try dsimp only); (go_split_ands; (repeat' apply And.intro) <;> first | assumption | exact Mine.call (by assumption) (by assumption) | exact Mine.alloc (by assumption) _ | exact Mine.setCells (by assumption) _ _ _ (by omega) | exact Mine.callN (by assumption) (by assumption) (by omega) | exact Row.belowN (by assumption) (by assumption) (by omega) | exact there_belowN (by assumption) (by assumption) (by omega) | exact rangeAt_below (by assumption) (by assumption) | exact World.rangeAt_alloc (by assumption) _ | exact World.rangeAt_setCells_apart (by assumption) _ _ _ (Or.inl (by omega)) | exact there_below (by assumption) (by assumption) | exact World.there_alloc (by assumption) _ | exact World.there_setCells (by assumption) _ _ _ | exact Row.belowS (by assumption) (by assumption) | exact Row.alloc (by assumption) _ | exact Row.setCells (by assumption) _ _ (by omega) | exact HS.below (by assumption) (by assumption) | exact SB.below (by assumption) (by assumption) | exact HS.alloc (by assumption) _)
            clear hK K
            try simp only [Act.put, List.setIfInBounds_toArray, List.set_cons_zero, List.set_cons_succ]
            refine wpAnyH_take (i := 8) (oi := { dst := some 36, op := Op.build 51 #[(0, Operand.tmp 31), (1, Operand.tmp 35)], type := 51, pos := "law.go:114", after := #[{ on := 3, ground := Ground.data }, { on := 7, ground := Ground.data }], guard := none }) (v := _) rfl (by kernel_rfl) (by kernel_rfl) (by kernel_rfl) (fun _ _ _ h => h) (yields_build_pair rfl _ _ rfl rfl rfl AA.out.2.1 AA.out.2.2) (by assumption) ?_
            try simp only [Act.put, List.setIfInBounds_toArray, List.set_cons_zero, List.set_cons_succ]
            rw [HPB.out]; have hi := UU.out.2; have hh1 := PP.out.2; have hol := TT.out.2
            have hPre := hHeld
            refine wpAnyH_ready (rs := [10]) (by kernel_rfl) (by simp) (AllReadyH.cons (o := { dst := none, op := Op.store 51 (Operand.tmp 7) (Operand.tmp 36), type := 0, pos := "law.go:114", after := #[{ on := 9, ground := Ground.data }, { on := 8, ground := Ground.data }, { on := 7, ground := Ground.chain }, { on := 0, ground := Ground.phase }, { on := 1, ground := Ground.phase }, { on := 2, ground := Ground.phase }, { on := 3, ground := Ground.phase }, { on := 4, ground := Ground.phase }, { on := 5, ground := Ground.phase }, { on := 6, ground := Ground.phase }, { on := 7, ground := Ground.phase }, { on := 8, ground := Ground.phase }, { on := 9, ground := Ground.phase }], guard := none }) rfl (fun K hK => ?_) AllReadyH.nil)
            rw [if_pos (by rfl)]
            refine wp_store_mid _ _ _ rfl _ _ (List.toArray _) rfl rfl (by go_split_ands; first | assumption | (simp only [List.size_toArray, *] <;> assumption)) (by first | assumption | (simp only [List.size_toArray] <;> assumption) | (simp only [List.size_toArray, *]; done)) (all_oneCell_toArray (by assumption)) ?_
            simp only [Act.put, List.setIfInBounds_toArray, List.set_cons_zero, List.set_cons_succ, List.toList_toArray]
            refine hK.out _ _ ?_ (fun hHeld => ?_)
            · (try dsimp only); (go_split_ands; (repeat' apply And.intro) <;> first | assumption | exact Mine.call (by assumption) (by assumption) | exact Mine.alloc (by assumption) _ | exact Mine.setCells (by assumption) _ _ _ (by omega) | exact Mine.callN (by assumption) (by assumption) (by omega) | exact Row.belowN (by assumption) (by assumption) (by omega) | exact there_belowN (by assumption) (by assumption) (by omega) | exact rangeAt_below (by assumption) (by assumption) | exact World.rangeAt_alloc (by assumption) _ | exact World.rangeAt_setCells_apart (by assumption) _ _ _ (Or.inl (by omega)) | exact there_below (by assumption) (by assumption) | exact World.there_alloc (by assumption) _ | exact World.there_setCells (by assumption) _ _ _ | exact Row.belowS (by assumption) (by assumption) | exact Row.alloc (by assumption) _ | exact Row.setCells (by assumption) _ _ (by omega) | exact HS.below (by assumption) (by assumption) | exact SB.below (by assumption) (by assumption) | exact HS.alloc (by assumption) _)
            clear hK K
            refine wpAnyH_done (by kernel_rfl) ?_ _
            refine NoPanic.normal ?_
            exact key7 B7 _ hHeld.2.2 hHeld.1.1 hHeld.1.2.2 (World.rangeAt_setCells_same _ B7 0 pb (by rw [TT.out.2]; exact hPre.2.1))
        ·
          go_simp
          have hOld := hHeld
          refine hK.out _ _ ?_ (fun hHeld => ?_)
          · (try dsimp only); (go_split_ands; (repeat' apply And.intro) <;> first | assumption | exact Mine.call (by assumption) (by assumption) | exact Mine.alloc (by assumption) _ | exact Mine.setCells (by assumption) _ _ _ (by omega) | exact Mine.callN (by assumption) (by assumption) (by omega) | exact Row.belowN (by assumption) (by assumption) (by omega) | exact there_belowN (by assumption) (by assumption) (by omega) | exact rangeAt_below (by assumption) (by assumption) | exact World.rangeAt_alloc (by assumption) _ | exact World.rangeAt_setCells_apart (by assumption) _ _ _ (Or.inl (by omega)) | exact there_below (by assumption) (by assumption) | exact World.there_alloc (by assumption) _ | exact World.there_setCells (by assumption) _ _ _ | exact Row.belowS (by assumption) (by assumption) | exact Row.alloc (by assumption) _ | exact Row.setCells (by assumption) _ _ (by omega) | exact HS.below (by assumption) (by assumption) | exact SB.below (by assumption) (by assumption) | exact HS.alloc (by assumption) _)
          clear hK K
          try simp only [Act.put, List.setIfInBounds_toArray, List.set_cons_zero, List.set_cons_succ]
          obtain ⟨B7, hB7⟩ : ∃ B, W6.heap.size = B := ⟨_, rfl⟩
          try rw [hB7]
          refine wpAnyH_with (E := fun w' => w'.there B7 0 64 ∧ B6 + 1 ≤ B7) (by (try dsimp only); refine ⟨?_, ?_⟩ <;> rw [← hB7] <;> first | exact pair_there _ | exact (World.there_drew _ _ _ _).2 (pair_there _) | assumption | (first | exact there_lt (by assumption) | (go_split_ands; exact there_lt (by assumption)) | (have hq := there_lt HT6.out; omega))) hHeld (fun hHeld => ?_)
          try dsimp only at hHeld
          refine wpAnyH_ready (rs := [3]) (by kernel_rfl) (by simp) (AllReadyH.cons (o := { dst := some 31, op := Op.call { callee := Callee.value (Operand.func 27), args := #[Operand.tmp 30], argTypes := #[22] }, type := 23, pos := "law.go:114", after := #[{ on := 2, ground := Ground.data }], guard := none }) rfl (fun K hK => ?_) AllReadyH.nil)
          go_simp
          refine (Q3.out _ (by go_split_ands; exact Mine.bel (by assumption))).mono ?_; rintro e w4 ⟨rfl, hbw4⟩
          go_wp2_with fail
          refine hK.out _ _ ?_ (fun hHeld => ?_)
          · (try dsimp only); (go_split_ands; (repeat' apply And.intro) <;> first | assumption | exact Mine.call (by assumption) (by assumption) | exact Mine.alloc (by assumption) _ | exact Mine.setCells (by assumption) _ _ _ (by omega) | exact Mine.callN (by assumption) (by assumption) (by omega) | exact Row.belowN (by assumption) (by assumption) (by omega) | exact there_belowN (by assumption) (by assumption) (by omega) | exact rangeAt_below (by assumption) (by assumption) | exact World.rangeAt_alloc (by assumption) _ | exact World.rangeAt_setCells_apart (by assumption) _ _ _ (Or.inl (by omega)) | exact there_below (by assumption) (by assumption) | exact World.there_alloc (by assumption) _ | exact World.there_setCells (by assumption) _ _ _ | exact Row.belowS (by assumption) (by assumption) | exact Row.alloc (by assumption) _ | exact Row.setCells (by assumption) _ _ (by omega) | exact HS.below (by assumption) (by assumption) | exact SB.below (by assumption) (by assumption) | exact HS.alloc (by assumption) _)
          clear hK K
          try simp only [Act.put, List.setIfInBounds_toArray, List.set_cons_zero, List.set_cons_succ]
          refine wpAnyH_ready (rs := [7]) (by kernel_rfl) (by simp) (AllReadyH.cons (o := { dst := some 35, op := Op.call { callee := Callee.value (Operand.func 27), args := #[Operand.tmp 34], argTypes := #[22] }, type := 23, pos := "law.go:114", after := #[{ on := 6, ground := Ground.data }, { on := 3, ground := Ground.chain }], guard := none }) rfl (fun K hK => ?_) AllReadyH.nil)
          go_simp
          refine (Q4.out _ (by go_split_ands; exact Mine.bel (by assumption))).mono ?_; rintro e w5 ⟨rfl, hbw5⟩
          go_wp2_with fail
          refine hK.out _ _ ?_ (fun hHeld => ?_)
          · (try dsimp only); (go_split_ands; (repeat' apply And.intro) <;> first | assumption | exact Mine.call (by assumption) (by assumption) | exact Mine.alloc (by assumption) _ | exact Mine.setCells (by assumption) _ _ _ (by omega) | exact Mine.callN (by assumption) (by assumption) (by omega) | exact Row.belowN (by assumption) (by assumption) (by omega) | exact there_belowN (by assumption) (by assumption) (by omega) | exact rangeAt_below (by assumption) (by assumption) | exact World.rangeAt_alloc (by assumption) _ | exact World.rangeAt_setCells_apart (by assumption) _ _ _ (Or.inl (by omega)) | exact there_below (by assumption) (by assumption) | exact World.there_alloc (by assumption) _ | exact World.there_setCells (by assumption) _ _ _ | exact Row.belowS (by assumption) (by assumption) | exact Row.alloc (by assumption) _ | exact Row.setCells (by assumption) _ _ (by omega) | exact HS.below (by assumption) (by assumption) | exact SB.below (by assumption) (by assumption) | exact HS.alloc (by assumption) _)
          clear hK K
          try simp only [Act.put, List.setIfInBounds_toArray, List.set_cons_zero, List.set_cons_succ]
          refine wpAnyH_take (i := 8) (oi := { dst := some 36, op := Op.build 51 #[(0, Operand.tmp 31), (1, Operand.tmp 35)], type := 51, pos := "law.go:114", after := #[{ on := 3, ground := Ground.data }, { on := 7, ground := Ground.data }], guard := none }) (v := _) rfl (by kernel_rfl) (by kernel_rfl) (by kernel_rfl) (fun _ _ _ h => h) (yields_build_pair rfl _ _ rfl rfl rfl AA.out.2.1 AA.out.2.2) (by assumption) ?_
          try simp only [Act.put, List.setIfInBounds_toArray, List.set_cons_zero, List.set_cons_succ]
          rw [HPB.out]; have hi := UU.out.2; have hh1 := PP.out.2; have hol := TT.out.2
          have hPre := hHeld
          refine wpAnyH_ready (rs := [10]) (by kernel_rfl) (by simp) (AllReadyH.cons (o := { dst := none, op := Op.store 51 (Operand.tmp 7) (Operand.tmp 36), type := 0, pos := "law.go:114", after := #[{ on := 9, ground := Ground.data }, { on := 8, ground := Ground.data }, { on := 7, ground := Ground.chain }, { on := 0, ground := Ground.phase }, { on := 1, ground := Ground.phase }, { on := 2, ground := Ground.phase }, { on := 3, ground := Ground.phase }, { on := 4, ground := Ground.phase }, { on := 5, ground := Ground.phase }, { on := 6, ground := Ground.phase }, { on := 7, ground := Ground.phase }, { on := 8, ground := Ground.phase }, { on := 9, ground := Ground.phase }], guard := none }) rfl (fun K hK => ?_) AllReadyH.nil)
          rw [if_pos (by rfl)]
          refine wp_store_mid _ _ _ rfl _ _ (List.toArray _) rfl rfl (by go_split_ands; first | assumption | (simp only [List.size_toArray, *] <;> assumption)) (by first | assumption | (simp only [List.size_toArray] <;> assumption) | (simp only [List.size_toArray, *]; done)) (all_oneCell_toArray (by assumption)) ?_
          simp only [Act.put, List.setIfInBounds_toArray, List.set_cons_zero, List.set_cons_succ, List.toList_toArray]
          refine hK.out _ _ ?_ (fun hHeld => ?_)
          · (try dsimp only); (go_split_ands; (repeat' apply And.intro) <;> first | assumption | exact Mine.call (by assumption) (by assumption) | exact Mine.alloc (by assumption) _ | exact Mine.setCells (by assumption) _ _ _ (by omega) | exact Mine.callN (by assumption) (by assumption) (by omega) | exact Row.belowN (by assumption) (by assumption) (by omega) | exact there_belowN (by assumption) (by assumption) (by omega) | exact rangeAt_below (by assumption) (by assumption) | exact World.rangeAt_alloc (by assumption) _ | exact World.rangeAt_setCells_apart (by assumption) _ _ _ (Or.inl (by omega)) | exact there_below (by assumption) (by assumption) | exact World.there_alloc (by assumption) _ | exact World.there_setCells (by assumption) _ _ _ | exact Row.belowS (by assumption) (by assumption) | exact Row.alloc (by assumption) _ | exact Row.setCells (by assumption) _ _ (by omega) | exact HS.below (by assumption) (by assumption) | exact SB.below (by assumption) (by assumption) | exact HS.alloc (by assumption) _)
          clear hK K
          refine wpAnyH_done (by kernel_rfl) ?_ _
          refine NoPanic.normal ?_
          exact key7 B7 _ hHeld.2.2 hHeld.1.1 hHeld.1.2.2 (World.rangeAt_setCells_same _ B7 0 pb (by rw [TT.out.2]; exact hPre.2.1))
      refine wp_region_noPanic ?_
      refine wp_region_held_drew (S := (fun w' => Mine A w w')) (by kernel_rfl) ?_ (fun hHeld => ?_)
      · exact ⟨Nat.le_of_eq HA.out.symm, (Below.refl _ w).drew⟩
      refine wpAnyH_take (i := 0) (oi := { dst := some 19, op := Op.move (Operand.tmp 0), type := 22, pos := "law.go:113", after := #[], guard := none }) (v := ?v0_50) rfl (by kernel_rfl) (by kernel_rfl) (by kernel_rfl) (fun _ _ _ h => h) (Or.inl ⟨by rfl, ?y0_50⟩) (by assumption) ?r0_50
      case y0_50 => intro w hSw; (try dsimp only at hSw); go_simp; try with_reducible rfl
      try simp only [Act.put, List.setIfInBounds_toArray, List.set_cons_zero, List.set_cons_succ]
      refine wpAnyH_take (i := 1) (oi := { dst := some 20, op := Op.move (Operand.tmp 5), type := 3, pos := "law.go:113", after := #[], guard := none }) (v := ?v1_51) rfl (by kernel_rfl) (by kernel_rfl) (by kernel_rfl) (fun _ _ _ h => h) (Or.inl ⟨by rfl, ?y1_51⟩) (by assumption) ?r1_51
      case y1_51 => intro w hSw; (try dsimp only at hSw); go_simp; try with_reducible rfl
      try simp only [Act.put, List.setIfInBounds_toArray, List.set_cons_zero, List.set_cons_succ]
      refine wpAnyH_take (i := 2) (oi := { dst := some 21, op := Op.slice 22 (Operand.tmp 19) none (some (Operand.tmp 20)) none, type := 22, pos := "law.go:113", after := #[{ on := 0, ground := Ground.data }, { on := 1, ground := Ground.data }], guard := none }) (v := ?v2_52) rfl (by kernel_rfl) (by kernel_rfl) (by kernel_rfl) (fun _ _ _ h => h) (Or.inl ⟨by rfl, ?y2_52⟩) (by assumption) ?r2_52
      case y2_52 => intro w hSw; (try dsimp only at hSw); go_simp; try with_reducible rfl
      try simp only [Act.put, List.setIfInBounds_toArray, List.set_cons_zero, List.set_cons_succ]
      refine wpAnyH_take (i := 4) (oi := { dst := some 23, op := Op.move (Operand.tmp 0), type := 22, pos := "law.go:113", after := #[], guard := none }) (v := ?v4_53) rfl (by kernel_rfl) (by kernel_rfl) (by kernel_rfl) (fun _ _ _ h => h) (Or.inl ⟨by rfl, ?y4_53⟩) (by assumption) ?r4_53
      case y4_53 => intro w hSw; (try dsimp only at hSw); go_simp; try with_reducible rfl
      try simp only [Act.put, List.setIfInBounds_toArray, List.set_cons_zero, List.set_cons_succ]
      refine wpAnyH_take (i := 5) (oi := { dst := some 24, op := Op.move (Operand.tmp 5), type := 3, pos := "law.go:113", after := #[], guard := none }) (v := ?v5_54) rfl (by kernel_rfl) (by kernel_rfl) (by kernel_rfl) (fun _ _ _ h => h) (Or.inl ⟨by rfl, ?y5_54⟩) (by assumption) ?r5_54
      case y5_54 => intro w hSw; (try dsimp only at hSw); go_simp; try with_reducible rfl
      try simp only [Act.put, List.setIfInBounds_toArray, List.set_cons_zero, List.set_cons_succ]
      refine wpAnyH_take (i := 6) (oi := { dst := some 25, op := Op.slice 22 (Operand.tmp 23) (some (Operand.tmp 24)) none none, type := 22, pos := "law.go:113", after := #[{ on := 4, ground := Ground.data }, { on := 5, ground := Ground.data }], guard := none }) (v := ?v6_55) rfl (by kernel_rfl) (by kernel_rfl) (by kernel_rfl) (fun _ _ _ h => h) (Or.inl ⟨by rfl, ?y6_55⟩) (by assumption) ?r6_55
      case y6_55 => intro w hSw; (try dsimp only at hSw); go_simp; try with_reducible rfl
      try simp only [Act.put, List.setIfInBounds_toArray, List.set_cons_zero, List.set_cons_succ]
      refine wpAnyH_ready (rs := [3, 9]) (by kernel_rfl) (by simp) (AllReadyH.cons (o := { dst := some 22, op := Op.call { callee := Callee.value (Operand.func 27), args := #[Operand.tmp 21], argTypes := #[22] }, type := 23, pos := "law.go:113", after := #[{ on := 2, ground := Ground.data }], guard := none }) rfl (fun K hK => ?_) (AllReadyH.cons (o := { dst := some 6, op := Op.alloc 51, type := 0, pos := "law.go:113", after := #[], guard := none }) rfl (fun K hK => ?_) (AllReadyH.nil)))
      ·
        go_simp
        refine (Q1.out _ (by go_split_ands; exact Mine.bel (by assumption))).mono ?_; rintro e w2 ⟨rfl, hbw2⟩
        go_wp2_with fail
        refine hK.out _ _ ?_ (fun hHeld => ?_)
        · (try dsimp only); (go_split_ands; (repeat' apply And.intro) <;> first | assumption | exact Mine.call (by assumption) (by assumption) | exact Mine.alloc (by assumption) _ | exact Mine.setCells (by assumption) _ _ _ (by omega) | exact Mine.callN (by assumption) (by assumption) (by omega) | exact Row.belowN (by assumption) (by assumption) (by omega) | exact there_belowN (by assumption) (by assumption) (by omega) | exact rangeAt_below (by assumption) (by assumption) | exact World.rangeAt_alloc (by assumption) _ | exact World.rangeAt_setCells_apart (by assumption) _ _ _ (Or.inl (by omega)) | exact there_below (by assumption) (by assumption) | exact World.there_alloc (by assumption) _ | exact World.there_setCells (by assumption) _ _ _ | exact Row.belowS (by assumption) (by assumption) | exact Row.alloc (by assumption) _ | exact Row.setCells (by assumption) _ _ (by omega) | exact HS.below (by assumption) (by assumption) | exact SB.below (by assumption) (by assumption) | exact HS.alloc (by assumption) _)
        clear hK K
        try simp only [Act.put, List.setIfInBounds_toArray, List.set_cons_zero, List.set_cons_succ]
        refine wpAnyH_ready (rs := [7, 9]) (by kernel_rfl) (by simp) (AllReadyH.cons (o := { dst := some 26, op := Op.call { callee := Callee.value (Operand.func 27), args := #[Operand.tmp 25], argTypes := #[22] }, type := 23, pos := "law.go:113", after := #[{ on := 6, ground := Ground.data }, { on := 3, ground := Ground.chain }], guard := none }) rfl (fun K hK => ?_) (AllReadyH.cons (o := { dst := some 6, op := Op.alloc 51, type := 0, pos := "law.go:113", after := #[], guard := none }) rfl (fun K hK => ?_) (AllReadyH.nil)))
        ·
          go_simp
          refine (Q2.out _ (by go_split_ands; exact Mine.bel (by assumption))).mono ?_; rintro e w3 ⟨rfl, hbw3⟩
          go_wp2_with fail
          refine hK.out _ _ ?_ (fun hHeld => ?_)
          · (try dsimp only); (go_split_ands; (repeat' apply And.intro) <;> first | assumption | exact Mine.call (by assumption) (by assumption) | exact Mine.alloc (by assumption) _ | exact Mine.setCells (by assumption) _ _ _ (by omega) | exact Mine.callN (by assumption) (by assumption) (by omega) | exact Row.belowN (by assumption) (by assumption) (by omega) | exact there_belowN (by assumption) (by assumption) (by omega) | exact rangeAt_below (by assumption) (by assumption) | exact World.rangeAt_alloc (by assumption) _ | exact World.rangeAt_setCells_apart (by assumption) _ _ _ (Or.inl (by omega)) | exact there_below (by assumption) (by assumption) | exact World.there_alloc (by assumption) _ | exact World.there_setCells (by assumption) _ _ _ | exact Row.belowS (by assumption) (by assumption) | exact Row.alloc (by assumption) _ | exact Row.setCells (by assumption) _ _ (by omega) | exact HS.below (by assumption) (by assumption) | exact SB.below (by assumption) (by assumption) | exact HS.alloc (by assumption) _)
          clear hK K
          try simp only [Act.put, List.setIfInBounds_toArray, List.set_cons_zero, List.set_cons_succ]
          refine wpAnyH_take (i := 8) (oi := { dst := some 27, op := Op.build 51 #[(0, Operand.tmp 22), (1, Operand.tmp 26)], type := 51, pos := "law.go:113", after := #[{ on := 3, ground := Ground.data }, { on := 7, ground := Ground.data }], guard := none }) (v := _) rfl (by kernel_rfl) (by kernel_rfl) (by kernel_rfl) (fun _ _ _ h => h) (yields_build_pair rfl _ _ rfl rfl rfl AA.out.1.1 AA.out.1.2) (by assumption) ?_
          try simp only [Act.put, List.setIfInBounds_toArray, List.set_cons_zero, List.set_cons_succ]
          refine wpAnyH_ready (rs := [9]) (by kernel_rfl) (by simp) (AllReadyH.cons (o := { dst := some 6, op := Op.alloc 51, type := 0, pos := "law.go:113", after := #[], guard := none }) rfl (fun K hK => ?_) (AllReadyH.nil))
          go_simp
          have hOld := hHeld
          refine hK.out _ _ ?_ (fun hHeld => ?_)
          · (try dsimp only); (go_split_ands; (repeat' apply And.intro) <;> first | assumption | exact Mine.call (by assumption) (by assumption) | exact Mine.alloc (by assumption) _ | exact Mine.setCells (by assumption) _ _ _ (by omega) | exact Mine.callN (by assumption) (by assumption) (by omega) | exact Row.belowN (by assumption) (by assumption) (by omega) | exact there_belowN (by assumption) (by assumption) (by omega) | exact rangeAt_below (by assumption) (by assumption) | exact World.rangeAt_alloc (by assumption) _ | exact World.rangeAt_setCells_apart (by assumption) _ _ _ (Or.inl (by omega)) | exact there_below (by assumption) (by assumption) | exact World.there_alloc (by assumption) _ | exact World.there_setCells (by assumption) _ _ _ | exact Row.belowS (by assumption) (by assumption) | exact Row.alloc (by assumption) _ | exact Row.setCells (by assumption) _ _ (by omega) | exact HS.below (by assumption) (by assumption) | exact SB.below (by assumption) (by assumption) | exact HS.alloc (by assumption) _)
          clear hK K
          try simp only [Act.put, List.setIfInBounds_toArray, List.set_cons_zero, List.set_cons_succ]
          obtain ⟨B6, hB6⟩ : ∃ B, w3.heap.size = B := ⟨_, rfl⟩
          try rw [hB6]
          refine wpAnyH_with (E := fun w' => w'.there B6 0 64 ∧ A ≤ B6) (by (try dsimp only); refine ⟨?_, ?_⟩ <;> rw [← hB6] <;> first | exact pair_there _ | exact (World.there_drew _ _ _ _).2 (pair_there _) | assumption | (first | exact Nat.le_of_eq HA.out.symm | (go_split_ands; exact Mine.le (by assumption)))) hHeld (fun hHeld => ?_)
          try dsimp only at hHeld
          rw [HPA.out]; have hi := UU.out.1; have hh1 := PP.out.1; have hol := TT.out.1
          have hPre := hHeld
          refine wpAnyH_ready (rs := [10]) (by kernel_rfl) (by simp) (AllReadyH.cons (o := { dst := none, op := Op.store 51 (Operand.tmp 6) (Operand.tmp 27), type := 0, pos := "law.go:113", after := #[{ on := 9, ground := Ground.data }, { on := 8, ground := Ground.data }, { on := 7, ground := Ground.chain }, { on := 0, ground := Ground.phase }, { on := 1, ground := Ground.phase }, { on := 2, ground := Ground.phase }, { on := 3, ground := Ground.phase }, { on := 4, ground := Ground.phase }, { on := 5, ground := Ground.phase }, { on := 6, ground := Ground.phase }, { on := 7, ground := Ground.phase }, { on := 8, ground := Ground.phase }, { on := 9, ground := Ground.phase }], guard := none }) rfl (fun K hK => ?_) AllReadyH.nil)
          rw [if_pos (by rfl)]
          refine wp_store_mid _ _ _ rfl _ _ (List.toArray _) rfl rfl (by go_split_ands; first | assumption | (simp only [List.size_toArray, *] <;> assumption)) (by first | assumption | (simp only [List.size_toArray] <;> assumption) | (simp only [List.size_toArray, *]; done)) (all_oneCell_toArray (by assumption)) ?_
          simp only [Act.put, List.setIfInBounds_toArray, List.set_cons_zero, List.set_cons_succ, List.toList_toArray]
          refine hK.out _ _ ?_ (fun hHeld => ?_)
          · (try dsimp only); (go_split_ands; (repeat' apply And.intro) <;> first | assumption | exact Mine.call (by assumption) (by assumption) | exact Mine.alloc (by assumption) _ | exact Mine.setCells (by assumption) _ _ _ (by omega) | exact Mine.callN (by assumption) (by assumption) (by omega) | exact Row.belowN (by assumption) (by assumption) (by omega) | exact there_belowN (by assumption) (by assumption) (by omega) | exact rangeAt_below (by assumption) (by assumption) | exact World.rangeAt_alloc (by assumption) _ | exact World.rangeAt_setCells_apart (by assumption) _ _ _ (Or.inl (by omega)) | exact there_below (by assumption) (by assumption) | exact World.there_alloc (by assumption) _ | exact World.there_setCells (by assumption) _ _ _ | exact Row.belowS (by assumption) (by assumption) | exact Row.alloc (by assumption) _ | exact Row.setCells (by assumption) _ _ (by omega) | exact HS.below (by assumption) (by assumption) | exact SB.below (by assumption) (by assumption) | exact HS.alloc (by assumption) _)
          clear hK K
          refine wpAnyH_done (by kernel_rfl) ?_ _
          refine NoPanic.normal ?_
          exact key6 B6 _ hHeld.2.2 hHeld.1 hHeld.2.1 (World.rangeAt_setCells_same _ B6 0 pa (by rw [TT.out.1]; exact hPre.2.1))
        ·
          go_simp
          have hOld := hHeld
          refine hK.out _ _ ?_ (fun hHeld => ?_)
          · (try dsimp only); (go_split_ands; (repeat' apply And.intro) <;> first | assumption | exact Mine.call (by assumption) (by assumption) | exact Mine.alloc (by assumption) _ | exact Mine.setCells (by assumption) _ _ _ (by omega) | exact Mine.callN (by assumption) (by assumption) (by omega) | exact Row.belowN (by assumption) (by assumption) (by omega) | exact there_belowN (by assumption) (by assumption) (by omega) | exact rangeAt_below (by assumption) (by assumption) | exact World.rangeAt_alloc (by assumption) _ | exact World.rangeAt_setCells_apart (by assumption) _ _ _ (Or.inl (by omega)) | exact there_below (by assumption) (by assumption) | exact World.there_alloc (by assumption) _ | exact World.there_setCells (by assumption) _ _ _ | exact Row.belowS (by assumption) (by assumption) | exact Row.alloc (by assumption) _ | exact Row.setCells (by assumption) _ _ (by omega) | exact HS.below (by assumption) (by assumption) | exact SB.below (by assumption) (by assumption) | exact HS.alloc (by assumption) _)
          clear hK K
          try simp only [Act.put, List.setIfInBounds_toArray, List.set_cons_zero, List.set_cons_succ]
          obtain ⟨B6, hB6⟩ : ∃ B, w2.heap.size = B := ⟨_, rfl⟩
          try rw [hB6]
          refine wpAnyH_with (E := fun w' => w'.there B6 0 64 ∧ A ≤ B6) (by (try dsimp only); refine ⟨?_, ?_⟩ <;> rw [← hB6] <;> first | exact pair_there _ | exact (World.there_drew _ _ _ _).2 (pair_there _) | assumption | (first | exact Nat.le_of_eq HA.out.symm | (go_split_ands; exact Mine.le (by assumption)))) hHeld (fun hHeld => ?_)
          try dsimp only at hHeld
          refine wpAnyH_ready (rs := [7]) (by kernel_rfl) (by simp) (AllReadyH.cons (o := { dst := some 26, op := Op.call { callee := Callee.value (Operand.func 27), args := #[Operand.tmp 25], argTypes := #[22] }, type := 23, pos := "law.go:113", after := #[{ on := 6, ground := Ground.data }, { on := 3, ground := Ground.chain }], guard := none }) rfl (fun K hK => ?_) AllReadyH.nil)
          go_simp
          refine (Q2.out _ (by go_split_ands; exact Mine.bel (by assumption))).mono ?_; rintro e w3 ⟨rfl, hbw3⟩
          go_wp2_with fail
          refine hK.out _ _ ?_ (fun hHeld => ?_)
          · (try dsimp only); (go_split_ands; (repeat' apply And.intro) <;> first | assumption | exact Mine.call (by assumption) (by assumption) | exact Mine.alloc (by assumption) _ | exact Mine.setCells (by assumption) _ _ _ (by omega) | exact Mine.callN (by assumption) (by assumption) (by omega) | exact Row.belowN (by assumption) (by assumption) (by omega) | exact there_belowN (by assumption) (by assumption) (by omega) | exact rangeAt_below (by assumption) (by assumption) | exact World.rangeAt_alloc (by assumption) _ | exact World.rangeAt_setCells_apart (by assumption) _ _ _ (Or.inl (by omega)) | exact there_below (by assumption) (by assumption) | exact World.there_alloc (by assumption) _ | exact World.there_setCells (by assumption) _ _ _ | exact Row.belowS (by assumption) (by assumption) | exact Row.alloc (by assumption) _ | exact Row.setCells (by assumption) _ _ (by omega) | exact HS.below (by assumption) (by assumption) | exact SB.below (by assumption) (by assumption) | exact HS.alloc (by assumption) _)
          clear hK K
          try simp only [Act.put, List.setIfInBounds_toArray, List.set_cons_zero, List.set_cons_succ]
          refine wpAnyH_take (i := 8) (oi := { dst := some 27, op := Op.build 51 #[(0, Operand.tmp 22), (1, Operand.tmp 26)], type := 51, pos := "law.go:113", after := #[{ on := 3, ground := Ground.data }, { on := 7, ground := Ground.data }], guard := none }) (v := _) rfl (by kernel_rfl) (by kernel_rfl) (by kernel_rfl) (fun _ _ _ h => h) (yields_build_pair rfl _ _ rfl rfl rfl AA.out.1.1 AA.out.1.2) (by assumption) ?_
          try simp only [Act.put, List.setIfInBounds_toArray, List.set_cons_zero, List.set_cons_succ]
          rw [HPA.out]; have hi := UU.out.1; have hh1 := PP.out.1; have hol := TT.out.1
          have hPre := hHeld
          refine wpAnyH_ready (rs := [10]) (by kernel_rfl) (by simp) (AllReadyH.cons (o := { dst := none, op := Op.store 51 (Operand.tmp 6) (Operand.tmp 27), type := 0, pos := "law.go:113", after := #[{ on := 9, ground := Ground.data }, { on := 8, ground := Ground.data }, { on := 7, ground := Ground.chain }, { on := 0, ground := Ground.phase }, { on := 1, ground := Ground.phase }, { on := 2, ground := Ground.phase }, { on := 3, ground := Ground.phase }, { on := 4, ground := Ground.phase }, { on := 5, ground := Ground.phase }, { on := 6, ground := Ground.phase }, { on := 7, ground := Ground.phase }, { on := 8, ground := Ground.phase }, { on := 9, ground := Ground.phase }], guard := none }) rfl (fun K hK => ?_) AllReadyH.nil)
          rw [if_pos (by rfl)]
          refine wp_store_mid _ _ _ rfl _ _ (List.toArray _) rfl rfl (by go_split_ands; first | assumption | (simp only [List.size_toArray, *] <;> assumption)) (by first | assumption | (simp only [List.size_toArray] <;> assumption) | (simp only [List.size_toArray, *]; done)) (all_oneCell_toArray (by assumption)) ?_
          simp only [Act.put, List.setIfInBounds_toArray, List.set_cons_zero, List.set_cons_succ, List.toList_toArray]
          refine hK.out _ _ ?_ (fun hHeld => ?_)
          · (try dsimp only); (go_split_ands; (repeat' apply And.intro) <;> first | assumption | exact Mine.call (by assumption) (by assumption) | exact Mine.alloc (by assumption) _ | exact Mine.setCells (by assumption) _ _ _ (by omega) | exact Mine.callN (by assumption) (by assumption) (by omega) | exact Row.belowN (by assumption) (by assumption) (by omega) | exact there_belowN (by assumption) (by assumption) (by omega) | exact rangeAt_below (by assumption) (by assumption) | exact World.rangeAt_alloc (by assumption) _ | exact World.rangeAt_setCells_apart (by assumption) _ _ _ (Or.inl (by omega)) | exact there_below (by assumption) (by assumption) | exact World.there_alloc (by assumption) _ | exact World.there_setCells (by assumption) _ _ _ | exact Row.belowS (by assumption) (by assumption) | exact Row.alloc (by assumption) _ | exact Row.setCells (by assumption) _ _ (by omega) | exact HS.below (by assumption) (by assumption) | exact SB.below (by assumption) (by assumption) | exact HS.alloc (by assumption) _)
          clear hK K
          refine wpAnyH_done (by kernel_rfl) ?_ _
          refine NoPanic.normal ?_
          exact key6 B6 _ hHeld.2.2 hHeld.1 hHeld.2.1 (World.rangeAt_setCells_same _ B6 0 pa (by rw [TT.out.1]; exact hPre.2.1))
      ·
        go_simp
        have hOld := hHeld
        refine hK.out _ _ ?_ (fun hHeld => ?_)
        · (try dsimp only); (go_split_ands; (repeat' apply And.intro) <;> first | assumption | exact Mine.call (by assumption) (by assumption) | exact Mine.alloc (by assumption) _ | exact Mine.setCells (by assumption) _ _ _ (by omega) | exact Mine.callN (by assumption) (by assumption) (by omega) | exact Row.belowN (by assumption) (by assumption) (by omega) | exact there_belowN (by assumption) (by assumption) (by omega) | exact rangeAt_below (by assumption) (by assumption) | exact World.rangeAt_alloc (by assumption) _ | exact World.rangeAt_setCells_apart (by assumption) _ _ _ (Or.inl (by omega)) | exact there_below (by assumption) (by assumption) | exact World.there_alloc (by assumption) _ | exact World.there_setCells (by assumption) _ _ _ | exact Row.belowS (by assumption) (by assumption) | exact Row.alloc (by assumption) _ | exact Row.setCells (by assumption) _ _ (by omega) | exact HS.below (by assumption) (by assumption) | exact SB.below (by assumption) (by assumption) | exact HS.alloc (by assumption) _)
        clear hK K
        try simp only [Act.put, List.setIfInBounds_toArray, List.set_cons_zero, List.set_cons_succ]
        obtain ⟨B6, hB6⟩ : ∃ B, w.heap.size = B := ⟨_, rfl⟩
        try rw [hB6]
        refine wpAnyH_with (E := fun w' => w'.there B6 0 64 ∧ A ≤ B6) (by (try dsimp only); refine ⟨?_, ?_⟩ <;> rw [← hB6] <;> first | exact pair_there _ | exact (World.there_drew _ _ _ _).2 (pair_there _) | assumption | (first | exact Nat.le_of_eq HA.out.symm | (go_split_ands; exact Mine.le (by assumption)))) hHeld (fun hHeld => ?_)
        try dsimp only at hHeld
        refine wpAnyH_ready (rs := [3]) (by kernel_rfl) (by simp) (AllReadyH.cons (o := { dst := some 22, op := Op.call { callee := Callee.value (Operand.func 27), args := #[Operand.tmp 21], argTypes := #[22] }, type := 23, pos := "law.go:113", after := #[{ on := 2, ground := Ground.data }], guard := none }) rfl (fun K hK => ?_) AllReadyH.nil)
        go_simp
        refine (Q1.out _ (by go_split_ands; exact Mine.bel (by assumption))).mono ?_; rintro e w2 ⟨rfl, hbw2⟩
        go_wp2_with fail
        refine hK.out _ _ ?_ (fun hHeld => ?_)
        · (try dsimp only); (go_split_ands; (repeat' apply And.intro) <;> first | assumption | exact Mine.call (by assumption) (by assumption) | exact Mine.alloc (by assumption) _ | exact Mine.setCells (by assumption) _ _ _ (by omega) | exact Mine.callN (by assumption) (by assumption) (by omega) | exact Row.belowN (by assumption) (by assumption) (by omega) | exact there_belowN (by assumption) (by assumption) (by omega) | exact rangeAt_below (by assumption) (by assumption) | exact World.rangeAt_alloc (by assumption) _ | exact World.rangeAt_setCells_apart (by assumption) _ _ _ (Or.inl (by omega)) | exact there_below (by assumption) (by assumption) | exact World.there_alloc (by assumption) _ | exact World.there_setCells (by assumption) _ _ _ | exact Row.belowS (by assumption) (by assumption) | exact Row.alloc (by assumption) _ | exact Row.setCells (by assumption) _ _ (by omega) | exact HS.below (by assumption) (by assumption) | exact SB.below (by assumption) (by assumption) | exact HS.alloc (by assumption) _)
        clear hK K
        try simp only [Act.put, List.setIfInBounds_toArray, List.set_cons_zero, List.set_cons_succ]
        refine wpAnyH_ready (rs := [7]) (by kernel_rfl) (by simp) (AllReadyH.cons (o := { dst := some 26, op := Op.call { callee := Callee.value (Operand.func 27), args := #[Operand.tmp 25], argTypes := #[22] }, type := 23, pos := "law.go:113", after := #[{ on := 6, ground := Ground.data }, { on := 3, ground := Ground.chain }], guard := none }) rfl (fun K hK => ?_) AllReadyH.nil)
        go_simp
        refine (Q2.out _ (by go_split_ands; exact Mine.bel (by assumption))).mono ?_; rintro e w3 ⟨rfl, hbw3⟩
        go_wp2_with fail
        refine hK.out _ _ ?_ (fun hHeld => ?_)
        · (try dsimp only); (go_split_ands; (repeat' apply And.intro) <;> first | assumption | exact Mine.call (by assumption) (by assumption) | exact Mine.alloc (by assumption) _ | exact Mine.setCells (by assumption) _ _ _ (by omega) | exact Mine.callN (by assumption) (by assumption) (by omega) | exact Row.belowN (by assumption) (by assumption) (by omega) | exact there_belowN (by assumption) (by assumption) (by omega) | exact rangeAt_below (by assumption) (by assumption) | exact World.rangeAt_alloc (by assumption) _ | exact World.rangeAt_setCells_apart (by assumption) _ _ _ (Or.inl (by omega)) | exact there_below (by assumption) (by assumption) | exact World.there_alloc (by assumption) _ | exact World.there_setCells (by assumption) _ _ _ | exact Row.belowS (by assumption) (by assumption) | exact Row.alloc (by assumption) _ | exact Row.setCells (by assumption) _ _ (by omega) | exact HS.below (by assumption) (by assumption) | exact SB.below (by assumption) (by assumption) | exact HS.alloc (by assumption) _)
        clear hK K
        try simp only [Act.put, List.setIfInBounds_toArray, List.set_cons_zero, List.set_cons_succ]
        refine wpAnyH_take (i := 8) (oi := { dst := some 27, op := Op.build 51 #[(0, Operand.tmp 22), (1, Operand.tmp 26)], type := 51, pos := "law.go:113", after := #[{ on := 3, ground := Ground.data }, { on := 7, ground := Ground.data }], guard := none }) (v := _) rfl (by kernel_rfl) (by kernel_rfl) (by kernel_rfl) (fun _ _ _ h => h) (yields_build_pair rfl _ _ rfl rfl rfl AA.out.1.1 AA.out.1.2) (by assumption) ?_
        try simp only [Act.put, List.setIfInBounds_toArray, List.set_cons_zero, List.set_cons_succ]
        rw [HPA.out]; have hi := UU.out.1; have hh1 := PP.out.1; have hol := TT.out.1
        have hPre := hHeld
        refine wpAnyH_ready (rs := [10]) (by kernel_rfl) (by simp) (AllReadyH.cons (o := { dst := none, op := Op.store 51 (Operand.tmp 6) (Operand.tmp 27), type := 0, pos := "law.go:113", after := #[{ on := 9, ground := Ground.data }, { on := 8, ground := Ground.data }, { on := 7, ground := Ground.chain }, { on := 0, ground := Ground.phase }, { on := 1, ground := Ground.phase }, { on := 2, ground := Ground.phase }, { on := 3, ground := Ground.phase }, { on := 4, ground := Ground.phase }, { on := 5, ground := Ground.phase }, { on := 6, ground := Ground.phase }, { on := 7, ground := Ground.phase }, { on := 8, ground := Ground.phase }, { on := 9, ground := Ground.phase }], guard := none }) rfl (fun K hK => ?_) AllReadyH.nil)
        rw [if_pos (by rfl)]
        refine wp_store_mid _ _ _ rfl _ _ (List.toArray _) rfl rfl (by go_split_ands; first | assumption | (simp only [List.size_toArray, *] <;> assumption)) (by first | assumption | (simp only [List.size_toArray] <;> assumption) | (simp only [List.size_toArray, *]; done)) (all_oneCell_toArray (by assumption)) ?_
        simp only [Act.put, List.setIfInBounds_toArray, List.set_cons_zero, List.set_cons_succ, List.toList_toArray]
        refine hK.out _ _ ?_ (fun hHeld => ?_)
        · (try dsimp only); (go_split_ands; (repeat' apply And.intro) <;> first | assumption | exact Mine.call (by assumption) (by assumption) | exact Mine.alloc (by assumption) _ | exact Mine.setCells (by assumption) _ _ _ (by omega) | exact Mine.callN (by assumption) (by assumption) (by omega) | exact Row.belowN (by assumption) (by assumption) (by omega) | exact there_belowN (by assumption) (by assumption) (by omega) | exact rangeAt_below (by assumption) (by assumption) | exact World.rangeAt_alloc (by assumption) _ | exact World.rangeAt_setCells_apart (by assumption) _ _ _ (Or.inl (by omega)) | exact there_below (by assumption) (by assumption) | exact World.there_alloc (by assumption) _ | exact World.there_setCells (by assumption) _ _ _ | exact Row.belowS (by assumption) (by assumption) | exact Row.alloc (by assumption) _ | exact Row.setCells (by assumption) _ _ (by omega) | exact HS.below (by assumption) (by assumption) | exact SB.below (by assumption) (by assumption) | exact HS.alloc (by assumption) _)
        clear hK K
        refine wpAnyH_done (by kernel_rfl) ?_ _
        refine NoPanic.normal ?_
        exact key6 B6 _ hHeld.2.2 hHeld.1 hHeld.2.1 (World.rangeAt_setCells_same _ B6 0 pa (by rw [TT.out.1]; exact hPre.2.1))
/-- **apart** -/
theorem apart_any : ∀ (N : Nat) (va vb : Value) (la lb : List (List UInt8)) (w : World), la.length < N → la.length ≤ 1000000 → HS w va la → HS w vb lb → la.length = lb.length → rootL la = rootL lb →
    Calls Try.prog 23 #[va, vb] w fun e w' => e = .returned (.bool (!(la == lb))) ∧ Below w.heap.size w w'
  | 0, _, _, _, _, _, h, _, _, _, _, _ => absurd h (by omega)
  | N + 1, va, vb, la, lb, w, h, hmax, ha, hb, hlen, hroot => by
    by_cases h2 : 2 ≤ la.length
    · exact apart_two va vb la lb w ha hb hlen h2 hmax hroot (fun va' vb' la' lb' w' hl ha' hb' hlen' hroot' => apart_any N va' vb' la' lb' w' (by omega) (by omega) ha' hb' hlen' hroot')
    · exact apart_few va vb la lb w ha hb hlen hroot (by omega)
end Go.Proofs.Ytnepmhdnkcnnmaa

/- merkle.Proof. -/
import Derived.RangeFuncNested
import Derived.RangeFuncBound
import Derived.RangeFuncCalls
import Derived.RangeFuncLeaves
import Derived.Shelf.Abstract
import Derived.Shelf.RegionOpen
import Derived.WalkKit
import Derived.OwnWalkIn
import Derived.TacticsInMore
import Derived.LoopNIn
import Derived.LoopIn
import Derived.Outline
import Derived.Lib.Hide
import Derived.Lib.SliceRun
import Derived.IntWalk
import Derived.WalkLawsBesides
import Derived.WalkSpells
import Derived.Laws.BitsAllLaws
import Derived.Lib.ConvBytes
import Derived.Maps.AppendAt
import Derived.Lib.AppendStr
import Derived.Lib.SlBytesConst
import Derived.Laws.AppendOwnNone
import Derived.Laws.OwnMore
import Derived.Laws.BytesArg
import Derived.Deep.RegionHeld3
import Derived.BigQuiet
import Derived.Deep.RegionLaw
import Derived.Deep.QuietTactic
import Derived.Lib.OthersKept
import Derived.Test.YtkipnhhdlohnfaaProg
import Derived.Deep.DeepFit
import Derived.Test.YtkipnhhdlohnfaaMkG
set_option linter.unusedVariables false
set_option linter.unusedSimpArgs false
namespace Go.Proofs.Ytkipnhhdlohnfaa
open Go Go.RowKit Go.Shelf

def sliceLen : Value → Nat
  | .slice _ n _ => n
  | _ => 0
set_option maxHeartbeats 4000000 in
set_option maxRecDepth 100000 in
theorem proof_in (v : Value) (ls : List (List UInt8)) (i : Nat) (w : World) (hv : HS w v ls) (hi : i < ls.length) (hmax : ls.length ≤ 1000) :
    Calls Try.prog 26 #[v, .int .i64 (i : Int)] w fun e w' => ∃ u, e = .returned (.tuple #[u, .int .i64 0]) ∧ OHS w' w.heap.size u (wayL ls i) ∧ Below w.heap.size w w' := by
  obtain ⟨C0, c0, rfl, hc0, -⟩ := hv.form
  obtain ⟨A, hA⟩ : ∃ A, w.heap.size = A := ⟨_, rfl⟩
  have M0 : Hid (Mine A w w) := ⟨by omega, Below.refl _ _⟩
  have HV := Lib.hid hv
  obtain ⟨n0, hn0⟩ : ∃ n0, ls.length = n0 := ⟨_, rfl⟩
  have HN0 := Lib.hid hn0
  rw [hn0] at HV hi hmax hc0 ⊢
  obtain ⟨res, hres⟩ : ∃ res, wayL ls i = res := ⟨_, rfl⟩
  have HRES := Lib.hid hres
  rw [hres]
  clear hv hn0 hres
  have d0 : decide ((i : Int) < 0) = false := by simp
  have d1 : decide (n0 ≤ i) = false := by simp; omega
  have d2 : decide ((n0 : Int) ≤ (i : Int)) = false := by simp; omega
  rw [hA]
  go_enter Try.func26, Try.ntmps26
  go_wp2
  go_loopw [0, 1, 6] (fun l x wy wr => ∃ (cur acc : List (List UInt8)) (j : Nat) (C : Option Addr) (c : Nat), (l = .slice C cur.length c ∧ HS w (.slice C cur.length c) cur ∧ cur.length ≤ c ∧ c ≤ 9223372036854775807) ∧ (x = .int .i64 (j : Int) ∧ j < cur.length ∧ acc.length + cur.length ≤ n0) ∧ OHS wr A wy acc ∧ wayL cur j ++ acc.reverse = res ∧ Mine A w wr) (fun l _ _ _ => sliceLen l)
  case atStart => exact ⟨ls, [], i, C0, c0, ⟨by rw [HN0.out], by rw [HN0.out]; exact HV.out, by rw [HN0.out]; exact hc0⟩, ⟨rfl, by rw [HN0.out]; exact hi, by rw [HN0.out]; simp⟩, OHS_nil _ _, by simpa using HRES.out, M0.out⟩
  case round =>
    clear HV HN0 HRES M0 hc0 hi
    obtain ⟨cur, acc, j, C, c, ⟨rfl, hv, hc1, hc2⟩, ⟨rfl, hj, hsum⟩, ho, hway, hm⟩ := hrel
    by_cases h2 : 2 ≤ cur.length
    · have hk := hlf_range cur.length h2
      have hh := fun w => half_any cur.length (by omega) w
      by_cases hjk : j < hlf cur.length
      · rw [wayL_left cur j h2 hjk] at hway
        obtain ⟨k, hke⟩ : ∃ k, hlf cur.length = k := ⟨_, rfl⟩
        rw [hke] at hk hjk hway
        simp only [hke] at hh
        obtain ⟨n, hn⟩ : ∃ n, cur.length = n := ⟨_, rfl⟩
        have ka := fun w => sums_runh C n c k (by omega) (k : Int) rfl w
        have kb := fun w => sums_run1 C n c k (by omega) (k : Int) rfl (n - k) (c - k) rfl rfl w
        have hv' : HS wr.drew (.slice C cur.length c) cur := hv.below (by rw [hA]; exact hm.bel.drew)
        have qb := root_any (cur.length + 1) _ _ _ (by rw [List.length_drop]; omega) (hv'.drop k (n - k) (c - k) (by omega) (by omega) rfl)
        have lb := rootL_length (cur.drop k) (fun x hx => hv.all x (List.mem_of_mem_drop hx))
        obtain ⟨rb, hrb⟩ : ∃ rb, rootL (cur.drop k) = rb := ⟨_, rfl⟩
        rw [hrb] at lb hway qb
        obtain ⟨ab, hab⟩ : ∃ ab, enc8 rb = ab := ⟨_, rfl⟩
        rw [hab] at qb
        have hl2 := hv.take k (by omega)
        have hcl : (cur.take k).length = k := by rw [List.length_take]; omega
        have hway2 : wayL (cur.take k) (j) ++ (acc ++ [rb]).reverse = res := by rw [← hway]; simp
        rw [hn] at hh h2 hj hsum hk hc1
        have hjk2 := hjk
        have hal : acc.length + 1 ≤ 1000000 := by omega
        have hgt : 1 < n := by omega
        rw [hn]
        have QB := Lib.hid qb
        have HH := Lib.hid hh
        have LB := Lib.hid lb
        have HAB := Lib.hid hab
        have HAL := Lib.hid hal
        have HOWN := Lib.hid ho
        have HM := Lib.hid hm
        have HL2 := Lib.hid hl2
        have HCL := Lib.hid hcl
        have HWAY2 := Lib.hid hway2
        clear hv hv' qb hh lb hrb hab hke hn hal ho hm hway hl2 hcl hway2
        go_wp2_with fail
        refine (HH.out _).mono ?_
        rintro e w1 ⟨rfl, rfl⟩
        go_wp2_with fail
        refine wp_region_noPanic ?_
        refine wp_region_held_drew (S := (fun w' => Mine A w w')) (by kernel_rfl) ?_ (fun hHeld => ?_)
        · exact ⟨HM.out.le, HM.out.bel.drew⟩
        refine wpAnyH_take (i := 0) (oi := { dst := some 25, op := Op.move (Operand.tmp 6), type := 29, pos := "merkle.go:50", after := #[], guard := none }) (v := ?v0_0) rfl (by kernel_rfl) (by kernel_rfl) (by kernel_rfl) (fun _ _ _ h => h) (Or.inl ⟨by rfl, ?y0_0⟩) (by assumption) ?r0_0
        case y0_0 => intro w hSw; (try dsimp only at hSw); go_simp; try with_reducible rfl
        try simp only [Act.put, List.setIfInBounds_toArray, List.set_cons_zero, List.set_cons_succ]
        refine wpAnyH_take (i := 1) (oi := { dst := some 26, op := Op.move (Operand.tmp 0), type := 29, pos := "merkle.go:50", after := #[], guard := none }) (v := ?v1_1) rfl (by kernel_rfl) (by kernel_rfl) (by kernel_rfl) (fun _ _ _ h => h) (Or.inl ⟨by rfl, ?y1_1⟩) (by assumption) ?r1_1
        case y1_1 => intro w hSw; (try dsimp only at hSw); go_simp; try with_reducible rfl
        try simp only [Act.put, List.setIfInBounds_toArray, List.set_cons_zero, List.set_cons_succ]
        refine wpAnyH_take (i := 2) (oi := { dst := some 27, op := Op.move (Operand.tmp 7), type := 3, pos := "merkle.go:50", after := #[], guard := none }) (v := ?v2_2) rfl (by kernel_rfl) (by kernel_rfl) (by kernel_rfl) (fun _ _ _ h => h) (Or.inl ⟨by rfl, ?y2_2⟩) (by assumption) ?r2_2
        case y2_2 => intro w hSw; (try dsimp only at hSw); go_simp; try with_reducible rfl
        try simp only [Act.put, List.setIfInBounds_toArray, List.set_cons_zero, List.set_cons_succ]
        refine wpAnyH_take (i := 3) (oi := { dst := some 28, op := Op.slice 29 (Operand.tmp 26) (some (Operand.tmp 27)) none none, type := 29, pos := "merkle.go:50", after := #[{ on := 1, ground := Ground.data }, { on := 2, ground := Ground.data }], guard := none }) (v := ?v3_3) rfl (by kernel_rfl) (by kernel_rfl) (by kernel_rfl) (fun _ _ _ h => h) (Or.inl ⟨by rfl, ?y3_3⟩) (by assumption) ?r3_3
        case y3_3 => intro w hSw; (try dsimp only at hSw); go_simp; try with_reducible rfl
        try simp only [Act.put, List.setIfInBounds_toArray, List.set_cons_zero, List.set_cons_succ]
        refine wpAnyH_take (i := 7) (oi := { dst := some 32, op := Op.move (Operand.tmp 0), type := 29, pos := "merkle.go:50", after := #[], guard := none }) (v := ?v7_4) rfl (by kernel_rfl) (by kernel_rfl) (by kernel_rfl) (fun _ _ _ h => h) (Or.inl ⟨by rfl, ?y7_4⟩) (by assumption) ?r7_4
        case y7_4 => intro w hSw; (try dsimp only at hSw); go_simp; try with_reducible rfl
        try simp only [Act.put, List.setIfInBounds_toArray, List.set_cons_zero, List.set_cons_succ]
        refine wpAnyH_take (i := 8) (oi := { dst := some 33, op := Op.move (Operand.tmp 7), type := 3, pos := "merkle.go:50", after := #[], guard := none }) (v := ?v8_5) rfl (by kernel_rfl) (by kernel_rfl) (by kernel_rfl) (fun _ _ _ h => h) (Or.inl ⟨by rfl, ?y8_5⟩) (by assumption) ?r8_5
        case y8_5 => intro w hSw; (try dsimp only at hSw); go_simp; try with_reducible rfl
        try simp only [Act.put, List.setIfInBounds_toArray, List.set_cons_zero, List.set_cons_succ]
        refine wpAnyH_take (i := 9) (oi := { dst := some 34, op := Op.slice 29 (Operand.tmp 32) none (some (Operand.tmp 33)) none, type := 29, pos := "merkle.go:50", after := #[{ on := 7, ground := Ground.data }, { on := 8, ground := Ground.data }], guard := none }) (v := ?v9_6) rfl (by kernel_rfl) (by kernel_rfl) (by kernel_rfl) (fun _ _ _ h => h) (Or.inl ⟨by rfl, ?y9_6⟩) (by assumption) ?r9_6
        case y9_6 => intro w hSw; (try dsimp only at hSw); go_simp; try with_reducible rfl
        try simp only [Act.put, List.setIfInBounds_toArray, List.set_cons_zero, List.set_cons_succ]
        refine wpAnyH_ready (rs := [4]) (by kernel_rfl) (by simp) (AllReadyH.cons (o := { dst := some 29, op := Op.call { callee := Callee.value (Operand.func 22), args := #[Operand.tmp 28], argTypes := #[29] }, type := 24, pos := "merkle.go:50", after := #[{ on := 3, ground := Ground.data }], guard := none }) rfl (fun K hK => ?_) AllReadyH.nil)
        go_simp
        have hM4 := hHeld; refine QB.out.mono ?_; rintro e w2 ⟨rfl, hb2⟩; have hown2 : OHS w2 A _ acc := OHS.below (W := w1.drew) HOWN.out hb2
        go_wp2_with fail
        refine hK.out _ _ ?_ (fun hHeld => ?_)
        · (try dsimp only); (go_split_ands; (repeat' apply And.intro) <;> first | assumption | exact Mine.call (by assumption) (by assumption) | exact Mine.alloc (by assumption) _ | exact Mine.setCells (by assumption) _ _ _ (by omega) | exact Mine.callN (by assumption) (by assumption) (by omega) | exact Row.belowN (by assumption) (by assumption) (by omega) | exact there_belowN (by assumption) (by assumption) (by omega) | exact rangeAt_below (by assumption) (by assumption) | exact World.rangeAt_alloc (by assumption) _ | exact there_below (by assumption) (by assumption) | exact World.there_alloc (by assumption) _ | exact World.there_setCells (by assumption) _ _ _ | exact Row.belowS (by assumption) (by assumption) | exact Row.alloc (by assumption) _ | exact Row.setCells (by assumption) _ _ (by omega) | exact HS.below (by assumption) (by assumption) | exact HS.alloc (by assumption) _)
        clear hK K
        try simp only [Act.put, List.setIfInBounds_toArray, List.set_cons_zero, List.set_cons_succ]
        refine wpAnyH_ready (rs := [5]) (by kernel_rfl) (by simp) (AllReadyH.cons (o := { dst := some 30, op := Op.buildSlice 29 1 #[(0, Operand.tmp 29)], type := 29, pos := "merkle.go:50", after := #[{ on := 4, ground := Ground.data }], guard := none }) rfl (fun K hK => ?_) AllReadyH.nil)
        refine stepS_build rfl 1 _ rfl [ab] (by simp [← HAB.out, enc8_len, LB.out]) rfl (by decide) (by decide) (by rw [Array.toList_map]; rfl) ?_; rw [show ([ab] : List (List Value)).flatMap id = ab by simp]
        refine hK.out _ _ ?_ (fun hHeld => ?_)
        · (try dsimp only); (go_split_ands; (repeat' apply And.intro) <;> first | assumption | exact Mine.call (by assumption) (by assumption) | exact Mine.alloc (by assumption) _ | exact Mine.setCells (by assumption) _ _ _ (by omega) | exact Mine.callN (by assumption) (by assumption) (by omega) | exact Row.belowN (by assumption) (by assumption) (by omega) | exact there_belowN (by assumption) (by assumption) (by omega) | exact rangeAt_below (by assumption) (by assumption) | exact World.rangeAt_alloc (by assumption) _ | exact there_below (by assumption) (by assumption) | exact World.there_alloc (by assumption) _ | exact World.there_setCells (by assumption) _ _ _ | exact Row.belowS (by assumption) (by assumption) | exact Row.alloc (by assumption) _ | exact Row.setCells (by assumption) _ _ (by omega) | exact HS.below (by assumption) (by assumption) | exact HS.alloc (by assumption) _)
        clear hK K
        try simp only [Act.put, List.setIfInBounds_toArray, List.set_cons_zero, List.set_cons_succ]
        refine wpAnyH_ready (rs := [6]) (by kernel_rfl) (by simp) (AllReadyH.cons (o := { dst := some 31, op := Op.call { callee := Callee.builtin Builtin.append, args := #[Operand.tmp 25, Operand.tmp 30], argTypes := #[29, 29] }, type := 29, pos := "merkle.go:50", after := #[{ on := 0, ground := Ground.data }, { on := 5, ground := Ground.data }, { on := 4, ground := Ground.chain }], guard := none }) rfl (fun K hK => ?_) AllReadyH.nil)
        refine stepS_append rfl (.tmp 25) (.tmp 30) rfl A _ acc w2.heap.size 24 rb 1 rfl (hown2.alloc _) rfl (by rw [HAB.out]; exact Row.new w2 ab.toArray 24) LB.out HAL.out (by have := hHeld.le; exact this) ?_; intro v3 w3 hown3 hg3 hb3
        refine hK.out _ _ ?_ (fun hHeld => ?_)
        · (try dsimp only); (go_split_ands; (repeat' apply And.intro) <;> first | assumption | exact Mine.call (by assumption) (by assumption) | exact Mine.alloc (by assumption) _ | exact Mine.setCells (by assumption) _ _ _ (by omega) | exact Mine.callN (by assumption) (by assumption) (by omega) | exact Row.belowN (by assumption) (by assumption) (by omega) | exact there_belowN (by assumption) (by assumption) (by omega) | exact rangeAt_below (by assumption) (by assumption) | exact World.rangeAt_alloc (by assumption) _ | exact there_below (by assumption) (by assumption) | exact World.there_alloc (by assumption) _ | exact World.there_setCells (by assumption) _ _ _ | exact Row.belowS (by assumption) (by assumption) | exact Row.alloc (by assumption) _ | exact Row.setCells (by assumption) _ _ (by omega) | exact HS.below (by assumption) (by assumption) | exact HS.alloc (by assumption) _)
        clear hK K
        try simp only [Act.put, List.setIfInBounds_toArray, List.set_cons_zero, List.set_cons_succ]
        refine wpAnyH_take (i := 10) (oi := { dst := some 6, op := Op.assign (Operand.tmp 31), type := 29, pos := "merkle.go:50", after := #[{ on := 6, ground := Ground.data }, { on := 6, ground := Ground.chain }, { on := 0, ground := Ground.phase }, { on := 1, ground := Ground.phase }, { on := 2, ground := Ground.phase }, { on := 3, ground := Ground.phase }, { on := 4, ground := Ground.phase }, { on := 5, ground := Ground.phase }, { on := 6, ground := Ground.phase }, { on := 7, ground := Ground.textOnly Departure.lateStores }, { on := 8, ground := Ground.textOnly Departure.lateStores }, { on := 9, ground := Ground.textOnly Departure.lateStoresUnsure }], guard := none }) (v := ?v10_7) rfl (by kernel_rfl) (by kernel_rfl) (by kernel_rfl) (fun _ _ _ h => h) (Or.inl ⟨by rfl, ?y10_7⟩) (by assumption) ?r10_7
        case y10_7 => intro w hSw; (try dsimp only at hSw); go_simp; try with_reducible rfl
        try simp only [Act.put, List.setIfInBounds_toArray, List.set_cons_zero, List.set_cons_succ]
        refine wpAnyH_take (i := 11) (oi := { dst := some 0, op := Op.assign (Operand.tmp 34), type := 29, pos := "merkle.go:50", after := #[{ on := 9, ground := Ground.data }, { on := 10, ground := Ground.chain }, { on := 0, ground := Ground.phase }, { on := 1, ground := Ground.phase }, { on := 2, ground := Ground.phase }, { on := 3, ground := Ground.phase }, { on := 4, ground := Ground.phase }, { on := 5, ground := Ground.phase }, { on := 6, ground := Ground.phase }, { on := 7, ground := Ground.phase }, { on := 8, ground := Ground.phase }, { on := 9, ground := Ground.phase }, { on := 10, ground := Ground.phase }], guard := none }) (v := ?v11_8) rfl (by kernel_rfl) (by kernel_rfl) (by kernel_rfl) (fun _ _ _ h => h) (Or.inl ⟨by rfl, ?y11_8⟩) (by assumption) ?r11_8
        case y11_8 => intro w hSw; (try dsimp only at hSw); go_simp; try with_reducible rfl
        try simp only [Act.put, List.setIfInBounds_toArray, List.set_cons_zero, List.set_cons_succ]
        refine wpAnyH_done (by kernel_rfl) ?_ _
        refine NoPanic.normal ?_
        have hfin := Lib.hid hHeld
        have HX := Lib.hid hown3
        clear hHeld hb2 hb3 hg3 hown2 hown3 hM4
        go_wp2
        go_roundw
        case rel => exact ⟨cur.take k, acc ++ [rb], j, C, c, ⟨by rw [HCL.out], by rw [HCL.out]; exact HL2.out, by rw [HCL.out]; omega⟩, ⟨rfl, by rw [HCL.out]; omega, by rw [HCL.out]; simp; omega⟩, HX.out, HWAY2.out, hfin.out⟩
        case measure => simp [sliceLen]; omega
      · rw [wayL_right cur j h2 hjk] at hway
        obtain ⟨k, hke⟩ : ∃ k, hlf cur.length = k := ⟨_, rfl⟩
        rw [hke] at hk hjk hway
        simp only [hke] at hh
        obtain ⟨n, hn⟩ : ∃ n, cur.length = n := ⟨_, rfl⟩
        have ka := fun w => sums_runh C n c k (by omega) (k : Int) rfl w
        have kb := fun w => sums_run1 C n c k (by omega) (k : Int) rfl (n - k) (c - k) rfl rfl w
        have hv' : HS wr.drew (.slice C cur.length c) cur := hv.below (by rw [hA]; exact hm.bel.drew)
        have qb := root_any (cur.length + 1) _ _ _ (by rw [List.length_take]; omega) (hv'.take k (by omega))
        have lb := rootL_length (cur.take k) (fun x hx => hv.all x (List.mem_of_mem_take hx))
        obtain ⟨rb, hrb⟩ : ∃ rb, rootL (cur.take k) = rb := ⟨_, rfl⟩
        rw [hrb] at lb hway qb
        obtain ⟨ab, hab⟩ : ∃ ab, enc8 rb = ab := ⟨_, rfl⟩
        rw [hab] at qb
        have hl2 := hv.drop k (n - k) (c - k) (by omega) (by omega) rfl
        have hcl : (cur.drop k).length = n - k := by rw [List.length_drop]; omega
        have hway2 : wayL (cur.drop k) ((j - k)) ++ (acc ++ [rb]).reverse = res := by rw [← hway]; simp
        rw [hn] at hh h2 hj hsum hk hc1
        have hjw : IntKind.i64.wrap ((j : Int) - (k : Int)) = ((j - k : Nat) : Int) := by rw [IntWalk.i64_in _ (by omega)]; omega
        have hal : acc.length + 1 ≤ 1000000 := by omega
        have hgt : 1 < n := by omega
        rw [hn]
        have QB := Lib.hid qb
        have HH := Lib.hid hh
        have LB := Lib.hid lb
        have HAB := Lib.hid hab
        have HAL := Lib.hid hal
        have HOWN := Lib.hid ho
        have HM := Lib.hid hm
        have HL2 := Lib.hid hl2
        have HCL := Lib.hid hcl
        have HWAY2 := Lib.hid hway2
        clear hv hv' qb hh lb hrb hab hke hn hal ho hm hway hl2 hcl hway2
        go_wp2_with fail
        refine (HH.out _).mono ?_
        rintro e w1 ⟨rfl, rfl⟩
        go_wp2_with fail
        refine wp_region_noPanic ?_
        refine wp_region_held_drew (S := (fun w' => Mine A w w')) (by kernel_rfl) ?_ (fun hHeld => ?_)
        · exact ⟨HM.out.le, HM.out.bel.drew⟩
        refine wpAnyH_take (i := 0) (oi := { dst := some 35, op := Op.move (Operand.tmp 6), type := 29, pos := "merkle.go:53", after := #[], guard := none }) (v := ?v0_9) rfl (by kernel_rfl) (by kernel_rfl) (by kernel_rfl) (fun _ _ _ h => h) (Or.inl ⟨by rfl, ?y0_9⟩) (by assumption) ?r0_9
        case y0_9 => intro w hSw; (try dsimp only at hSw); go_simp; try with_reducible rfl
        try simp only [Act.put, List.setIfInBounds_toArray, List.set_cons_zero, List.set_cons_succ]
        refine wpAnyH_take (i := 1) (oi := { dst := some 36, op := Op.move (Operand.tmp 0), type := 29, pos := "merkle.go:53", after := #[], guard := none }) (v := ?v1_10) rfl (by kernel_rfl) (by kernel_rfl) (by kernel_rfl) (fun _ _ _ h => h) (Or.inl ⟨by rfl, ?y1_10⟩) (by assumption) ?r1_10
        case y1_10 => intro w hSw; (try dsimp only at hSw); go_simp; try with_reducible rfl
        try simp only [Act.put, List.setIfInBounds_toArray, List.set_cons_zero, List.set_cons_succ]
        refine wpAnyH_take (i := 2) (oi := { dst := some 37, op := Op.move (Operand.tmp 7), type := 3, pos := "merkle.go:53", after := #[], guard := none }) (v := ?v2_11) rfl (by kernel_rfl) (by kernel_rfl) (by kernel_rfl) (fun _ _ _ h => h) (Or.inl ⟨by rfl, ?y2_11⟩) (by assumption) ?r2_11
        case y2_11 => intro w hSw; (try dsimp only at hSw); go_simp; try with_reducible rfl
        try simp only [Act.put, List.setIfInBounds_toArray, List.set_cons_zero, List.set_cons_succ]
        refine wpAnyH_take (i := 3) (oi := { dst := some 38, op := Op.slice 29 (Operand.tmp 36) none (some (Operand.tmp 37)) none, type := 29, pos := "merkle.go:53", after := #[{ on := 1, ground := Ground.data }, { on := 2, ground := Ground.data }], guard := none }) (v := ?v3_12) rfl (by kernel_rfl) (by kernel_rfl) (by kernel_rfl) (fun _ _ _ h => h) (Or.inl ⟨by rfl, ?y3_12⟩) (by assumption) ?r3_12
        case y3_12 => intro w hSw; (try dsimp only at hSw); go_simp; try with_reducible rfl
        try simp only [Act.put, List.setIfInBounds_toArray, List.set_cons_zero, List.set_cons_succ]
        refine wpAnyH_take (i := 7) (oi := { dst := some 42, op := Op.move (Operand.tmp 0), type := 29, pos := "merkle.go:53", after := #[], guard := none }) (v := ?v7_13) rfl (by kernel_rfl) (by kernel_rfl) (by kernel_rfl) (fun _ _ _ h => h) (Or.inl ⟨by rfl, ?y7_13⟩) (by assumption) ?r7_13
        case y7_13 => intro w hSw; (try dsimp only at hSw); go_simp; try with_reducible rfl
        try simp only [Act.put, List.setIfInBounds_toArray, List.set_cons_zero, List.set_cons_succ]
        refine wpAnyH_take (i := 8) (oi := { dst := some 43, op := Op.move (Operand.tmp 7), type := 3, pos := "merkle.go:53", after := #[], guard := none }) (v := ?v8_14) rfl (by kernel_rfl) (by kernel_rfl) (by kernel_rfl) (fun _ _ _ h => h) (Or.inl ⟨by rfl, ?y8_14⟩) (by assumption) ?r8_14
        case y8_14 => intro w hSw; (try dsimp only at hSw); go_simp; try with_reducible rfl
        try simp only [Act.put, List.setIfInBounds_toArray, List.set_cons_zero, List.set_cons_succ]
        refine wpAnyH_take (i := 9) (oi := { dst := some 44, op := Op.slice 29 (Operand.tmp 42) (some (Operand.tmp 43)) none none, type := 29, pos := "merkle.go:53", after := #[{ on := 7, ground := Ground.data }, { on := 8, ground := Ground.data }], guard := none }) (v := ?v9_15) rfl (by kernel_rfl) (by kernel_rfl) (by kernel_rfl) (fun _ _ _ h => h) (Or.inl ⟨by rfl, ?y9_15⟩) (by assumption) ?r9_15
        case y9_15 => intro w hSw; (try dsimp only at hSw); go_simp; try with_reducible rfl
        try simp only [Act.put, List.setIfInBounds_toArray, List.set_cons_zero, List.set_cons_succ]
        refine wpAnyH_take (i := 10) (oi := { dst := some 45, op := Op.move (Operand.tmp 1), type := 3, pos := "merkle.go:53", after := #[{ on := 14, ground := Ground.gcOnly Departure.lateStores }], guard := none }) (v := ?v10_16) rfl (by kernel_rfl) (by kernel_rfl) (by kernel_rfl) (fun _ _ _ h => h) (Or.inl ⟨by rfl, ?y10_16⟩) (by assumption) ?r10_16
        case y10_16 => intro w hSw; (try dsimp only at hSw); go_simp; try with_reducible rfl
        try simp only [Act.put, List.setIfInBounds_toArray, List.set_cons_zero, List.set_cons_succ]
        refine wpAnyH_take (i := 11) (oi := { dst := some 46, op := Op.move (Operand.tmp 7), type := 3, pos := "merkle.go:53", after := #[{ on := 14, ground := Ground.gcOnly Departure.lateStores }], guard := none }) (v := ?v11_17) rfl (by kernel_rfl) (by kernel_rfl) (by kernel_rfl) (fun _ _ _ h => h) (Or.inl ⟨by rfl, ?y11_17⟩) (by assumption) ?r11_17
        case y11_17 => intro w hSw; (try dsimp only at hSw); go_simp; try with_reducible rfl
        try simp only [Act.put, List.setIfInBounds_toArray, List.set_cons_zero, List.set_cons_succ]
        refine wpAnyH_take (i := 12) (oi := { dst := some 47, op := Op.binOp BinOp.sub 3 (Operand.tmp 45) (Operand.tmp 46) 3, type := 3, pos := "merkle.go:53", after := #[{ on := 10, ground := Ground.data }, { on := 11, ground := Ground.data }, { on := 14, ground := Ground.gcOnly Departure.lateStores }], guard := none }) (v := ?v12_18) rfl (by kernel_rfl) (by kernel_rfl) (by kernel_rfl) (fun _ _ _ h => h) (Or.inl ⟨by rfl, ?y12_18⟩) (by assumption) ?r12_18
        case y12_18 => intro w hSw; (try dsimp only at hSw); go_simp; try with_reducible rfl
        try simp only [Act.put, List.setIfInBounds_toArray, List.set_cons_zero, List.set_cons_succ]
        refine wpAnyH_ready (rs := [4]) (by kernel_rfl) (by simp) (AllReadyH.cons (o := { dst := some 39, op := Op.call { callee := Callee.value (Operand.func 22), args := #[Operand.tmp 38], argTypes := #[29] }, type := 24, pos := "merkle.go:53", after := #[{ on := 3, ground := Ground.data }], guard := none }) rfl (fun K hK => ?_) AllReadyH.nil)
        go_simp
        have hM4 := hHeld; refine QB.out.mono ?_; rintro e w2 ⟨rfl, hb2⟩; have hown2 : OHS w2 A _ acc := OHS.below (W := w1.drew) HOWN.out hb2
        go_wp2_with fail
        refine hK.out _ _ ?_ (fun hHeld => ?_)
        · (try dsimp only); (go_split_ands; (repeat' apply And.intro) <;> first | assumption | exact Mine.call (by assumption) (by assumption) | exact Mine.alloc (by assumption) _ | exact Mine.setCells (by assumption) _ _ _ (by omega) | exact Mine.callN (by assumption) (by assumption) (by omega) | exact Row.belowN (by assumption) (by assumption) (by omega) | exact there_belowN (by assumption) (by assumption) (by omega) | exact rangeAt_below (by assumption) (by assumption) | exact World.rangeAt_alloc (by assumption) _ | exact there_below (by assumption) (by assumption) | exact World.there_alloc (by assumption) _ | exact World.there_setCells (by assumption) _ _ _ | exact Row.belowS (by assumption) (by assumption) | exact Row.alloc (by assumption) _ | exact Row.setCells (by assumption) _ _ (by omega) | exact HS.below (by assumption) (by assumption) | exact HS.alloc (by assumption) _)
        clear hK K
        try simp only [Act.put, List.setIfInBounds_toArray, List.set_cons_zero, List.set_cons_succ]
        refine wpAnyH_ready (rs := [5]) (by kernel_rfl) (by simp) (AllReadyH.cons (o := { dst := some 40, op := Op.buildSlice 29 1 #[(0, Operand.tmp 39)], type := 29, pos := "merkle.go:53", after := #[{ on := 4, ground := Ground.data }], guard := none }) rfl (fun K hK => ?_) AllReadyH.nil)
        refine stepS_build rfl 1 _ rfl [ab] (by simp [← HAB.out, enc8_len, LB.out]) rfl (by decide) (by decide) (by rw [Array.toList_map]; rfl) ?_; rw [show ([ab] : List (List Value)).flatMap id = ab by simp]
        refine hK.out _ _ ?_ (fun hHeld => ?_)
        · (try dsimp only); (go_split_ands; (repeat' apply And.intro) <;> first | assumption | exact Mine.call (by assumption) (by assumption) | exact Mine.alloc (by assumption) _ | exact Mine.setCells (by assumption) _ _ _ (by omega) | exact Mine.callN (by assumption) (by assumption) (by omega) | exact Row.belowN (by assumption) (by assumption) (by omega) | exact there_belowN (by assumption) (by assumption) (by omega) | exact rangeAt_below (by assumption) (by assumption) | exact World.rangeAt_alloc (by assumption) _ | exact there_below (by assumption) (by assumption) | exact World.there_alloc (by assumption) _ | exact World.there_setCells (by assumption) _ _ _ | exact Row.belowS (by assumption) (by assumption) | exact Row.alloc (by assumption) _ | exact Row.setCells (by assumption) _ _ (by omega) | exact HS.below (by assumption) (by assumption) | exact HS.alloc (by assumption) _)
        clear hK K
        try simp only [Act.put, List.setIfInBounds_toArray, List.set_cons_zero, List.set_cons_succ]
        refine wpAnyH_ready (rs := [6]) (by kernel_rfl) (by simp) (AllReadyH.cons (o := { dst := some 41, op := Op.call { callee := Callee.builtin Builtin.append, args := #[Operand.tmp 35, Operand.tmp 40], argTypes := #[29, 29] }, type := 29, pos := "merkle.go:53", after := #[{ on := 0, ground := Ground.data }, { on := 5, ground := Ground.data }, { on := 4, ground := Ground.chain }], guard := none }) rfl (fun K hK => ?_) AllReadyH.nil)
        refine stepS_append rfl (.tmp 35) (.tmp 40) rfl A _ acc w2.heap.size 24 rb 1 rfl (hown2.alloc _) rfl (by rw [HAB.out]; exact Row.new w2 ab.toArray 24) LB.out HAL.out (by have := hHeld.le; exact this) ?_; intro v3 w3 hown3 hg3 hb3
        refine hK.out _ _ ?_ (fun hHeld => ?_)
        · (try dsimp only); (go_split_ands; (repeat' apply And.intro) <;> first | assumption | exact Mine.call (by assumption) (by assumption) | exact Mine.alloc (by assumption) _ | exact Mine.setCells (by assumption) _ _ _ (by omega) | exact Mine.callN (by assumption) (by assumption) (by omega) | exact Row.belowN (by assumption) (by assumption) (by omega) | exact there_belowN (by assumption) (by assumption) (by omega) | exact rangeAt_below (by assumption) (by assumption) | exact World.rangeAt_alloc (by assumption) _ | exact there_below (by assumption) (by assumption) | exact World.there_alloc (by assumption) _ | exact World.there_setCells (by assumption) _ _ _ | exact Row.belowS (by assumption) (by assumption) | exact Row.alloc (by assumption) _ | exact Row.setCells (by assumption) _ _ (by omega) | exact HS.below (by assumption) (by assumption) | exact HS.alloc (by assumption) _)
        clear hK K
        try simp only [Act.put, List.setIfInBounds_toArray, List.set_cons_zero, List.set_cons_succ]
        refine wpAnyH_take (i := 13) (oi := { dst := some 6, op := Op.assign (Operand.tmp 41), type := 29, pos := "merkle.go:53", after := #[{ on := 6, ground := Ground.data }, { on := 6, ground := Ground.chain }, { on := 0, ground := Ground.phase }, { on := 1, ground := Ground.phase }, { on := 2, ground := Ground.phase }, { on := 3, ground := Ground.phase }, { on := 4, ground := Ground.phase }, { on := 5, ground := Ground.phase }, { on := 6, ground := Ground.phase }, { on := 7, ground := Ground.textOnly Departure.lateStores }, { on := 8, ground := Ground.textOnly Departure.lateStores }, { on := 9, ground := Ground.textOnly Departure.lateStoresUnsure }, { on := 10, ground := Ground.textOnly Departure.lateStores }, { on := 11, ground := Ground.textOnly Departure.lateStores }, { on := 12, ground := Ground.textOnly Departure.lateStores }], guard := none }) (v := ?v13_19) rfl (by kernel_rfl) (by kernel_rfl) (by kernel_rfl) (fun _ _ _ h => h) (Or.inl ⟨by rfl, ?y13_19⟩) (by assumption) ?r13_19
        case y13_19 => intro w hSw; (try dsimp only at hSw); go_simp; try with_reducible rfl
        try simp only [Act.put, List.setIfInBounds_toArray, List.set_cons_zero, List.set_cons_succ]
        refine wpAnyH_take (i := 14) (oi := { dst := some 0, op := Op.assign (Operand.tmp 44), type := 29, pos := "merkle.go:53", after := #[{ on := 9, ground := Ground.data }, { on := 13, ground := Ground.chain }, { on := 0, ground := Ground.phase }, { on := 1, ground := Ground.phase }, { on := 2, ground := Ground.phase }, { on := 3, ground := Ground.phase }, { on := 4, ground := Ground.phase }, { on := 5, ground := Ground.phase }, { on := 6, ground := Ground.phase }, { on := 7, ground := Ground.phase }, { on := 8, ground := Ground.phase }, { on := 9, ground := Ground.phase }, { on := 10, ground := Ground.textOnly Departure.lateStores }, { on := 11, ground := Ground.textOnly Departure.lateStores }, { on := 12, ground := Ground.textOnly Departure.lateStores }, { on := 13, ground := Ground.phase }], guard := none }) (v := ?v14_20) rfl (by kernel_rfl) (by kernel_rfl) (by kernel_rfl) (fun _ _ _ h => h) (Or.inl ⟨by rfl, ?y14_20⟩) (by assumption) ?r14_20
        case y14_20 => intro w hSw; (try dsimp only at hSw); go_simp; try with_reducible rfl
        try simp only [Act.put, List.setIfInBounds_toArray, List.set_cons_zero, List.set_cons_succ]
        refine wpAnyH_take (i := 15) (oi := { dst := some 1, op := Op.assign (Operand.tmp 47), type := 3, pos := "merkle.go:53", after := #[{ on := 12, ground := Ground.data }, { on := 14, ground := Ground.chain }, { on := 0, ground := Ground.phase }, { on := 1, ground := Ground.phase }, { on := 2, ground := Ground.phase }, { on := 3, ground := Ground.phase }, { on := 4, ground := Ground.phase }, { on := 5, ground := Ground.phase }, { on := 6, ground := Ground.phase }, { on := 7, ground := Ground.phase }, { on := 8, ground := Ground.phase }, { on := 9, ground := Ground.phase }, { on := 10, ground := Ground.phase }, { on := 11, ground := Ground.phase }, { on := 12, ground := Ground.phase }, { on := 13, ground := Ground.phase }, { on := 14, ground := Ground.phase }], guard := none }) (v := ?v15_21) rfl (by kernel_rfl) (by kernel_rfl) (by kernel_rfl) (fun _ _ _ h => h) (Or.inl ⟨by rfl, ?y15_21⟩) (by assumption) ?r15_21
        case y15_21 => intro w hSw; (try dsimp only at hSw); go_simp; try with_reducible rfl
        try simp only [Act.put, List.setIfInBounds_toArray, List.set_cons_zero, List.set_cons_succ]
        refine wpAnyH_done (by kernel_rfl) ?_ _
        refine NoPanic.normal ?_
        have hfin := Lib.hid hHeld
        have HX := Lib.hid hown3
        clear hHeld hb2 hb3 hg3 hown2 hown3 hM4
        go_wp2
        go_roundw
        case rel => exact ⟨cur.drop k, acc ++ [rb], (j - k), (cutS C c k), (c - k), ⟨by rw [HCL.out], by rw [HCL.out]; exact HL2.out, by rw [HCL.out]; omega⟩, ⟨rfl, by rw [HCL.out]; omega, by rw [HCL.out]; simp; omega⟩, HX.out, HWAY2.out, hfin.out⟩
        case measure => simp [sliceLen]; omega
    · have h1 : cur.length = 1 := by omega
      rw [wayL_one cur j h2, List.nil_append] at hway
      rw [h1]
      have hrv := fun u (o : OHS wr A u acc) => rev_any u acc wr A o (by omega) hm.le
      have HO := Lib.hid ho
      have HM := Lib.hid hm
      have HW := Lib.hid hway
      clear ho hm hway hv hj hsum
      go_wp2_with fail
      refine (hrv _ HO.out).mono ?_
      rintro e w1 ⟨rfl, ho1, hm1⟩
      rw [HW.out] at ho1
      have HO1 := Lib.hid ho1
      have HB1 := Lib.hid (HM.out.bel.trans hm1.bel)
      clear ho1 hm1 HO HM HW hrv
      go_wp2
      go_ret2
      exact ⟨_, rfl, HO1.out, HB1.out⟩
set_option maxRecDepth 100000 in
theorem proof_out (v : Value) (ls : List (List UInt8)) (i : Int) (w : World) (hv : HS w v ls) (hi : ¬ (0 ≤ i ∧ i < ls.length)) (hmax : ls.length ≤ 1000) :
    Calls Try.prog 26 #[v, .int .i64 i] w fun e w' => ∃ u, e = .returned (.tuple #[u, .int .i64 1]) ∧ OHS w' w.heap.size u [] ∧ Below w.heap.size w w' := by
  obtain ⟨C, c, rfl, -⟩ := hv.form
  obtain ⟨n, hn⟩ : ∃ n, ls.length = n := ⟨_, rfl⟩
  rw [hn] at hi ⊢
  clear hv hmax hn
  by_cases h0 : 0 ≤ i
  · have h1 : ¬ i < n := by omega
    clear hi
    go_enter Try.func26, Try.ntmps26
    go_wp2
    go_ret2
    exact ⟨_, rfl, OHS_nil _ _, Below.refl _ _⟩
  · clear hi
    go_enter Try.func26, Try.ntmps26
    go_wp2
    go_ret2
    exact ⟨_, rfl, OHS_nil _ _, Below.refl _ _⟩
/-- **merkle.Proof** -/
theorem proof_any (v : Value) (ls : List (List UInt8)) (i : Int) (w : World) (hv : HS w v ls) (hmax : ls.length ≤ 1000) :
    Calls Try.prog 26 #[v, .int .i64 i] w fun e w' => ∃ u, e = .returned (.tuple #[u, .int .i64 (proofE ls i)]) ∧ OHS w' w.heap.size u (proofW ls i) ∧ Below w.heap.size w w' := by
  by_cases h : 0 ≤ i ∧ i < ls.length
  · obtain ⟨j, rfl⟩ : ∃ j : Nat, i = j := ⟨i.toNat, by omega⟩
    unfold proofW proofE
    rw [if_pos h, if_pos h, Int.toNat_natCast]
    exact proof_in v ls j w hv (by omega) hmax
  · unfold proofW proofE
    rw [if_neg h, if_neg h]
    exact proof_out v ls i w hv h hmax
end Go.Proofs.Ytkipnhhdlohnfaa

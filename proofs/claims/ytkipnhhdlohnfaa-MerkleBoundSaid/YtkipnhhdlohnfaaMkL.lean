/- The sums that show a beginning: the reference's sub, and Growth's inner function. -/
import Derived.RangeFuncNested
import Derived.RangeFuncBound
import Derived.RangeFuncCalls
import Derived.RangeFuncLeaves
import Derived.Shelf.Abstract
import Derived.Shelf.RegionOpen
import Derived.WalkKit
import Derived.OwnWalkIn
import Derived.TacticsInMore
import Derived.LoopNIn
import Derived.LoopIn
import Derived.Outline
import Derived.Lib.Hide
import Derived.Lib.SliceRun
import Derived.IntWalk
import Derived.WalkLawsBesides
import Derived.WalkSpells
import Derived.Laws.BitsAllLaws
import Derived.Lib.ConvBytes
import Derived.Maps.AppendAt
import Derived.Lib.AppendStr
import Derived.Lib.SlBytesConst
import Derived.Laws.AppendOwnNone
import Derived.Laws.OwnMore
import Derived.Laws.BytesArg
import Derived.Deep.RegionHeld3
import Derived.BigQuiet
import Derived.Deep.RegionLaw
import Derived.Deep.QuietTactic
import Derived.Lib.OthersKept
import Derived.Test.YtkipnhhdlohnfaaProg
import Derived.Deep.DeepFit
import Derived.Great.BuildSlice
import Derived.Test.YtkipnhhdlohnfaaMkK
set_option linter.unusedVariables false
set_option linter.unusedSimpArgs false
namespace Go.Proofs.Ytkipnhhdlohnfaa
open Go Go.RowKit Go.Shelf

/-- the sums that show that the first m leaves are the beginning -/
def growL (ls : List (List UInt8)) (m : Nat) (whole : Bool) : List (List UInt8) :=
  if h : 2 ≤ ls.length ∧ m ≠ ls.length then
    if m ≤ hlf ls.length then growL (ls.take (hlf ls.length)) m whole ++ [rootL (ls.drop (hlf ls.length))]
    else growL (ls.drop (hlf ls.length)) (m - hlf ls.length) false ++ [rootL (ls.take (hlf ls.length))]
  else if whole = true then [] else [rootL ls]
termination_by ls.length
decreasing_by
  · have := hlf_range ls.length h.1; rw [List.length_take]; omega
  · have := hlf_range ls.length h.1; rw [List.length_drop]; omega
theorem growL_base (ls : List (List UInt8)) (whole : Bool) : growL ls ls.length whole = if whole = true then [] else [rootL ls] := by rw [growL, dif_neg (by simp)]
theorem growL_left (ls : List (List UInt8)) (m : Nat) (b : Bool) (h : 2 ≤ ls.length) (hm : m ≠ ls.length) (hi : m ≤ hlf ls.length) : growL ls m b = growL (ls.take (hlf ls.length)) m b ++ [rootL (ls.drop (hlf ls.length))] := by rw [growL, dif_pos ⟨h, hm⟩, if_pos hi]
theorem growL_right (ls : List (List UInt8)) (m : Nat) (b : Bool) (h : 2 ≤ ls.length) (hm : m ≠ ls.length) (hi : ¬ m ≤ hlf ls.length) : growL ls m b = growL (ls.drop (hlf ls.length)) (m - hlf ls.length) false ++ [rootL (ls.take (hlf ls.length))] := by rw [growL, dif_pos ⟨h, hm⟩, if_neg hi]
theorem growL_size : ∀ (N : Nat) (ls : List (List UInt8)) (m : Nat) (b : Bool), ls.length ≤ N → (growL ls m b).length ≤ ls.length + 1
  | 0, ls, m, b, h => by
    rw [growL, dif_neg (by omega)]
    split <;> simp
  | N + 1, ls, m, b, h => by
    by_cases h2 : 2 ≤ ls.length ∧ m ≠ ls.length
    · have hk := hlf_range ls.length h2.1
      by_cases hi : m ≤ hlf ls.length
      · rw [growL_left ls m b h2.1 h2.2 hi, List.length_append]
        have := growL_size N (ls.take (hlf ls.length)) m b (by rw [List.length_take]; omega)
        rw [List.length_take] at this
        simp only [List.length_singleton]; omega
      · rw [growL_right ls m b h2.1 h2.2 hi, List.length_append]
        have := growL_size N (ls.drop (hlf ls.length)) (m - hlf ls.length) false (by rw [List.length_drop]; omega)
        rw [List.length_drop] at this
        simp only [List.length_singleton]; omega
    · rw [growL, dif_neg h2]
      split <;> simp

/-- a slice of sums of the call's own, new -/
theorem OHS_new (w : World) (B : Nat) (ls : List (List UInt8)) (cs : List Value) (h : cs = encS ls) (h32 : ∀ x ∈ ls, x.length = 32) (hm : ls.length ≤ 1000) (n : Nat) (hn : n = ls.length) (hB : B ≤ w.heap.size) : OHS (w.alloc (.cells cs.toArray 24)) B (.slice (some ⟨w.heap.size, 0, none⟩) n n) ls := by
  subst h hn
  refine ⟨h32, by rw [encS_len _ h32], .inr ⟨w.heap.size, ls.length, (encS ls).toArray, rfl, hB, World.alloc_heap_new w _, Nat.le_refl _, by unfold maxLen; omega, by simp [encS_len _ h32], ?_⟩⟩
  rw [List.take_of_length_le]
  simp [encS_len _ h32]

set_option maxHeartbeats 2000000 in
set_option maxRecDepth 100000 in
theorem qsub_base (v : Value) (ls : List (List UInt8)) (b : Bool) (w : World)  (hv : HS w v ls) (hmax : ls.length ≤ 999) :
    Calls Try.prog 54 #[v, .int .i64 (ls.length : Int), .bool b] w fun e w' => ∃ u, e = .returned u ∧ OHS w' w.heap.size u (growL ls ls.length b) ∧ Below w.heap.size w w' := by
  obtain ⟨C, c, rfl, hc, -⟩ := hv.form
  rw [growL_base]
  have hr := qroot_any (ls.length + 1) _ ls w (by omega) hv
  have hl := rootL_length ls hv.all
  obtain ⟨r, hre⟩ : ∃ r, rootL ls = r := ⟨_, rfl⟩
  rw [hre] at hl hr ⊢
  obtain ⟨ar, har⟩ : ∃ ar, enc8 r = ar := ⟨_, rfl⟩
  rw [har] at hr
  obtain ⟨n, hn⟩ : ∃ n, ls.length = n := ⟨_, rfl⟩
  rw [hn] at hr ⊢
  have HR := Lib.hid hr
  have HL := Lib.hid hl
  have HAR := Lib.hid har
  clear hr hl har hre hn hv hmax hc
  cases b with
  | true =>
    go_enter Try.func54, Try.ntmps54
    go_wp2
    go_ret
    exact ⟨_, rfl, OHS_nil _ _, Below.refl _ _⟩
  | false =>
    go_enter Try.func54, Try.ntmps54
    go_wp2_with fail
    refine HR.out.mono ?_
    rintro e w1 ⟨rfl, hb1⟩
    have m1 : Mine w.heap.size w w1 := ⟨hb1.size, hb1⟩
    have o1 := OHS_new w1 w.heap.size [r] ar (by simp [encS, HAR.out]) (by simp [HL.out]) (by simp) 1 rfl hb1.size
    have HO := Lib.hid o1
    have HM := Lib.hid (m1.alloc (.cells ar.toArray 24))
    clear hb1 m1 o1 HR
    go_wp2_with (refine wpS_build rfl 1 _ rfl [ar] (by simp [← HAR.out, enc8_len, HL.out]) rfl (by decide) (by decide) (by rw [Array.toList_map]; rfl) ?_; rw [show ([ar] : List (List Value)).flatMap id = ar by simp])
    go_ret
    exact ⟨_, rfl, HO.out, HM.out.bel⟩

set_option maxHeartbeats 2000000 in
set_option maxRecDepth 100000 in
theorem qsub_left (v : Value) (ls : List (List UInt8)) (i : Nat) (b : Bool) (w : World)  (hv : HS w v ls) (h2 : 2 ≤ ls.length) (hml : i ≠ ls.length) (hik :  i ≤ hlf ls.length) (h1 : 1 ≤ i) (hil : i ≤ ls.length) (hmax : ls.length ≤ 999)
    (IH : ∀ (v' : Value) (ls' : List (List UInt8)) (i' : Nat) (b' : Bool) (w' : World) , ls'.length < ls.length → 1 ≤ i' → i' ≤ ls'.length → HS w' v' ls' → Calls Try.prog 54 #[v', .int .i64 (i' : Int), .bool b'] w' fun e w'' => ∃ u, e = .returned u ∧ OHS w'' w'.heap.size u (growL ls' i' b') ∧ Below w'.heap.size w' w'') :
    Calls Try.prog 54 #[v, .int .i64 (i : Int), .bool b] w fun e w' => ∃ u, e = .returned u ∧ OHS w' w.heap.size u (growL ls i b) ∧ Below w.heap.size w w' := by
  obtain ⟨C, c, rfl, hc, -⟩ := hv.form
  have hk := hlf_range ls.length h2
  have hh := fun w => split_any ls.length (by omega) w
  have hws := growL_size _ (ls.take (hlf ls.length)) (i) b (Nat.le_refl _)
  rw [List.length_take] at hws
  rw [growL_left ls i b h2 hml hik]
  obtain ⟨k, hke⟩ : ∃ k, hlf ls.length = k := ⟨_, rfl⟩
  rw [hke] at hk hik hws ⊢
  simp only [hke] at hh
  have hjj := hik
  obtain ⟨n, hn⟩ : ∃ n, ls.length = n := ⟨_, rfl⟩
  obtain ⟨A, hA⟩ : ∃ A, w.heap.size = A := ⟨_, rfl⟩
  have ka := fun w => sums_runh C n c k (by omega) (k : Int) rfl w
  have kb := fun w => sums_run1 C n c k (by omega) (k : Int) rfl (n - k) (c - k) rfl rfl w
  have qa : ∀ w', Below A w w' → Calls Try.prog 54 #[.slice C k c, .int .i64 (i : Int), .bool b] w' fun e w'' => ∃ u, e = .returned u ∧ OHS w'' w'.heap.size u (growL (ls.take k) i b) ∧ Below w'.heap.size w' w'' := fun w' hb' =>
    IH _ _ _ _ _  (by rw [List.length_take]; omega) (by omega) (by rw [List.length_take]; omega) ((hv.below (by rw [hA]; exact hb')).take k (by omega))
  have qb : ∀ w', Below A w w' → Calls Try.prog 23 #[.slice (cutS C c k) (n - k) (c - k)] w' fun e w'' => e = .returned (.agg (enc8 (rootL (ls.drop k))).toArray) ∧ Below w'.heap.size w' w'' := fun w' hb' =>
    qroot_any (ls.length + 1) _ _ _ (by rw [List.length_drop]; omega) ((hv.below (by rw [hA]; exact hb')).drop k (n - k) (c - k) (by omega) (by omega) rfl)
  have lb := rootL_length (ls.drop k) (fun x hx => hv.all x (List.mem_of_mem_drop hx))
  obtain ⟨rb, hrb⟩ : ∃ rb, rootL (ls.drop k) = rb := ⟨_, rfl⟩
  rw [hrb] at lb
  simp only [hrb] at qb
  rw [hrb]
  obtain ⟨wy, hwy⟩ : ∃ wy, growL (ls.take k) i b = wy := ⟨_, rfl⟩
  rw [hwy] at hws ⊢
  simp only [hwy] at qa
  obtain ⟨ab, hab⟩ : ∃ ab, enc8 rb = ab := ⟨_, rfl⟩
  simp only [hab] at qb
  have hn1 : ((i : Int) == (n : Int)) = false := by simp; omega
  have hn1' : i ≠ n := by omega
  have hd : decide ((i : Int) ≤ (k : Int)) = true := by simp; omega
  have hwl : wy.length + 1 ≤ 1000000 := by omega
  
  rw [hn] at hh hv ⊢
  have QA := Lib.hid qa
  have QB := Lib.hid qb
  have HH := Lib.hid hh
  have LB := Lib.hid lb
  have HAB := Lib.hid hab
  have HWL := Lib.hid hwl
  have M0 : Hid (Mine A w w) := ⟨by omega, Below.refl _ _⟩
  clear IH hv qa qb hh h2 hk hc lb hrb hab hke hn hws hwy hwl hml h1 hil 
  rw [hA]
  go_enter Try.func54, Try.ntmps54
  go_wp2_with fail
  refine (HH.out _).mono ?_
  rintro e w1 ⟨rfl, rfl⟩
  go_wp2_with fail
  refine wp_region_noPanic ?_
  refine wp_region_held_drew (S := (fun w' => Mine A w1 w')) (by kernel_rfl) ?_ (fun hHeld => ?_)
  · exact ⟨M0.out.le, M0.out.bel.drew⟩
  refine wpAnyH_take (i := 0) (oi := { dst := some 22, op := Op.move (Operand.tmp 0), type := 29, pos := "ref.go:106", after := #[], guard := none }) (v := ?v0_0) rfl (by kernel_rfl) (by kernel_rfl) (by kernel_rfl) (fun _ _ _ h => h) (Or.inl ⟨by rfl, ?y0_0⟩) (by assumption) ?r0_0
  case y0_0 => intro w hSw; (try dsimp only at hSw); go_simp; try with_reducible rfl
  try simp only [Act.put, List.setIfInBounds_toArray, List.set_cons_zero, List.set_cons_succ]
  refine wpAnyH_take (i := 1) (oi := { dst := some 23, op := Op.move (Operand.tmp 7), type := 3, pos := "ref.go:106", after := #[], guard := none }) (v := ?v1_1) rfl (by kernel_rfl) (by kernel_rfl) (by kernel_rfl) (fun _ _ _ h => h) (Or.inl ⟨by rfl, ?y1_1⟩) (by assumption) ?r1_1
  case y1_1 => intro w hSw; (try dsimp only at hSw); go_simp; try with_reducible rfl
  try simp only [Act.put, List.setIfInBounds_toArray, List.set_cons_zero, List.set_cons_succ]
  refine wpAnyH_take (i := 2) (oi := { dst := some 24, op := Op.slice 29 (Operand.tmp 22) none (some (Operand.tmp 23)) none, type := 29, pos := "ref.go:106", after := #[{ on := 0, ground := Ground.data }, { on := 1, ground := Ground.data }], guard := none }) (v := ?v2_2) rfl (by kernel_rfl) (by kernel_rfl) (by kernel_rfl) (fun _ _ _ h => h) (Or.inl ⟨by rfl, ?y2_2⟩) (by assumption) ?r2_2
  case y2_2 => intro w hSw; (try dsimp only at hSw); go_simp; try with_reducible rfl
  try simp only [Act.put, List.setIfInBounds_toArray, List.set_cons_zero, List.set_cons_succ]
  refine wpAnyH_take (i := 3) (oi := { dst := some 25, op := Op.move (Operand.tmp 1), type := 3, pos := "ref.go:106", after := #[], guard := none }) (v := ?v3_3) rfl (by kernel_rfl) (by kernel_rfl) (by kernel_rfl) (fun _ _ _ h => h) (Or.inl ⟨by rfl, ?y3_3⟩) (by assumption) ?r3_3
  case y3_3 => intro w hSw; (try dsimp only at hSw); go_simp; try with_reducible rfl
  try simp only [Act.put, List.setIfInBounds_toArray, List.set_cons_zero, List.set_cons_succ]
  refine wpAnyH_take (i := 4) (oi := { dst := some 26, op := Op.move (Operand.tmp 2), type := 4, pos := "ref.go:106", after := #[], guard := none }) (v := ?v4_4) rfl (by kernel_rfl) (by kernel_rfl) (by kernel_rfl) (fun _ _ _ h => h) (Or.inl ⟨by rfl, ?y4_4⟩) (by assumption) ?r4_4
  case y4_4 => intro w hSw; (try dsimp only at hSw); go_simp; try with_reducible rfl
  try simp only [Act.put, List.setIfInBounds_toArray, List.set_cons_zero, List.set_cons_succ]
  refine wpAnyH_take (i := 6) (oi := { dst := some 28, op := Op.move (Operand.tmp 0), type := 29, pos := "ref.go:106", after := #[], guard := none }) (v := ?v6_5) rfl (by kernel_rfl) (by kernel_rfl) (by kernel_rfl) (fun _ _ _ h => h) (Or.inl ⟨by rfl, ?y6_5⟩) (by assumption) ?r6_5
  case y6_5 => intro w hSw; (try dsimp only at hSw); go_simp; try with_reducible rfl
  try simp only [Act.put, List.setIfInBounds_toArray, List.set_cons_zero, List.set_cons_succ]
  refine wpAnyH_take (i := 7) (oi := { dst := some 29, op := Op.move (Operand.tmp 7), type := 3, pos := "ref.go:106", after := #[], guard := none }) (v := ?v7_6) rfl (by kernel_rfl) (by kernel_rfl) (by kernel_rfl) (fun _ _ _ h => h) (Or.inl ⟨by rfl, ?y7_6⟩) (by assumption) ?r7_6
  case y7_6 => intro w hSw; (try dsimp only at hSw); go_simp; try with_reducible rfl
  try simp only [Act.put, List.setIfInBounds_toArray, List.set_cons_zero, List.set_cons_succ]
  refine wpAnyH_take (i := 8) (oi := { dst := some 30, op := Op.slice 29 (Operand.tmp 28) (some (Operand.tmp 29)) none none, type := 29, pos := "ref.go:106", after := #[{ on := 6, ground := Ground.data }, { on := 7, ground := Ground.data }], guard := none }) (v := ?v8_7) rfl (by kernel_rfl) (by kernel_rfl) (by kernel_rfl) (fun _ _ _ h => h) (Or.inl ⟨by rfl, ?y8_7⟩) (by assumption) ?r8_7
  case y8_7 => intro w hSw; (try dsimp only at hSw); go_simp; try with_reducible rfl
  try simp only [Act.put, List.setIfInBounds_toArray, List.set_cons_zero, List.set_cons_succ]
  refine wpAnyH_ready (rs := [5]) (by kernel_rfl) (by simp) (AllReadyH.cons (o := { dst := some 27, op := Op.call { callee := Callee.value (Operand.func 54), args := #[Operand.tmp 24, Operand.tmp 25, Operand.tmp 26], argTypes := #[29, 3, 4] }, type := 29, pos := "ref.go:106", after := #[{ on := 2, ground := Ground.data }, { on := 3, ground := Ground.data }, { on := 4, ground := Ground.data }], guard := none }) rfl (fun K hK => ?_) AllReadyH.nil)
  go_simp
  have hM4 := hHeld; refine (QA.out _ hHeld.bel).mono ?_; rintro e w' ⟨u, rfl, hown, hb⟩
  go_wp2_with fail
  refine hK.out _ _ ?_ (fun hHeld => ?_)
  · (try dsimp only); (go_split_ands; (repeat' apply And.intro) <;> first | assumption | exact Mine.call (by assumption) (by assumption) | exact Mine.alloc (by assumption) _ | exact Mine.setCells (by assumption) _ _ _ (by omega) | exact Mine.callN (by assumption) (by assumption) (by omega) | exact Row.belowN (by assumption) (by assumption) (by omega) | exact there_belowN (by assumption) (by assumption) (by omega) | exact rangeAt_below (by assumption) (by assumption) | exact World.rangeAt_alloc (by assumption) _ | exact there_below (by assumption) (by assumption) | exact World.there_alloc (by assumption) _ | exact World.there_setCells (by assumption) _ _ _ | exact Row.belowS (by assumption) (by assumption) | exact Row.alloc (by assumption) _ | exact Row.setCells (by assumption) _ _ (by omega) | exact HS.below (by assumption) (by assumption) | exact HS.alloc (by assumption) _)
  clear hK K
  try simp only [Act.put, List.setIfInBounds_toArray, List.set_cons_zero, List.set_cons_succ]
  refine wpAnyH_ready (rs := [9]) (by kernel_rfl) (by simp) (AllReadyH.cons (o := { dst := some 31, op := Op.call { callee := Callee.value (Operand.func 23), args := #[Operand.tmp 30], argTypes := #[29] }, type := 24, pos := "ref.go:106", after := #[{ on := 8, ground := Ground.data }, { on := 5, ground := Ground.chain }], guard := none }) rfl (fun K hK => ?_) AllReadyH.nil)
  go_simp
  refine (QB.out _ hHeld.bel).mono ?_; rintro e w2 ⟨rfl, hb2⟩; have hown2 := (hown.below hb2).mono hM4.le
  go_wp2_with fail
  refine hK.out _ _ ?_ (fun hHeld => ?_)
  · (try dsimp only); (go_split_ands; (repeat' apply And.intro) <;> first | assumption | exact Mine.call (by assumption) (by assumption) | exact Mine.alloc (by assumption) _ | exact Mine.setCells (by assumption) _ _ _ (by omega) | exact Mine.callN (by assumption) (by assumption) (by omega) | exact Row.belowN (by assumption) (by assumption) (by omega) | exact there_belowN (by assumption) (by assumption) (by omega) | exact rangeAt_below (by assumption) (by assumption) | exact World.rangeAt_alloc (by assumption) _ | exact there_below (by assumption) (by assumption) | exact World.there_alloc (by assumption) _ | exact World.there_setCells (by assumption) _ _ _ | exact Row.belowS (by assumption) (by assumption) | exact Row.alloc (by assumption) _ | exact Row.setCells (by assumption) _ _ (by omega) | exact HS.below (by assumption) (by assumption) | exact HS.alloc (by assumption) _)
  clear hK K
  try simp only [Act.put, List.setIfInBounds_toArray, List.set_cons_zero, List.set_cons_succ]
  refine wpAnyH_ready (rs := [10]) (by kernel_rfl) (by simp) (AllReadyH.cons (o := { dst := some 32, op := Op.buildSlice 29 1 #[(0, Operand.tmp 31)], type := 29, pos := "ref.go:106", after := #[{ on := 9, ground := Ground.data }], guard := none }) rfl (fun K hK => ?_) AllReadyH.nil)
  refine stepS_build rfl 1 _ rfl [ab] (by simp [← HAB.out, enc8_len, LB.out]) rfl (by decide) (by decide) (by rw [Array.toList_map]; rfl) ?_; rw [show ([ab] : List (List Value)).flatMap id = ab by simp]
  refine hK.out _ _ ?_ (fun hHeld => ?_)
  · (try dsimp only); (go_split_ands; (repeat' apply And.intro) <;> first | assumption | exact Mine.call (by assumption) (by assumption) | exact Mine.alloc (by assumption) _ | exact Mine.setCells (by assumption) _ _ _ (by omega) | exact Mine.callN (by assumption) (by assumption) (by omega) | exact Row.belowN (by assumption) (by assumption) (by omega) | exact there_belowN (by assumption) (by assumption) (by omega) | exact rangeAt_below (by assumption) (by assumption) | exact World.rangeAt_alloc (by assumption) _ | exact there_below (by assumption) (by assumption) | exact World.there_alloc (by assumption) _ | exact World.there_setCells (by assumption) _ _ _ | exact Row.belowS (by assumption) (by assumption) | exact Row.alloc (by assumption) _ | exact Row.setCells (by assumption) _ _ (by omega) | exact HS.below (by assumption) (by assumption) | exact HS.alloc (by assumption) _)
  clear hK K
  try simp only [Act.put, List.setIfInBounds_toArray, List.set_cons_zero, List.set_cons_succ]
  refine wpAnyH_ready (rs := [11]) (by kernel_rfl) (by simp) (AllReadyH.cons (o := { dst := some 33, op := Op.call { callee := Callee.builtin Builtin.append, args := #[Operand.tmp 27, Operand.tmp 32], argTypes := #[29, 29] }, type := 29, pos := "ref.go:106", after := #[{ on := 5, ground := Ground.data }, { on := 10, ground := Ground.data }, { on := 9, ground := Ground.chain }], guard := none }) rfl (fun K hK => ?_) AllReadyH.nil)
  refine stepS_append rfl (.tmp 27) (.tmp 32) rfl A u wy w2.heap.size 24 rb 1 rfl (hown2.alloc _) rfl (by rw [HAB.out]; exact Row.new w2 ab.toArray 24) LB.out HWL.out (by have := hHeld.le; exact this) ?_; intro v3 w3 hown3 hg3 hb3
  refine hK.out _ _ ?_ (fun hHeld => ?_)
  · (try dsimp only); (go_split_ands; (repeat' apply And.intro) <;> first | assumption | exact Mine.call (by assumption) (by assumption) | exact Mine.alloc (by assumption) _ | exact Mine.setCells (by assumption) _ _ _ (by omega) | exact Mine.callN (by assumption) (by assumption) (by omega) | exact Row.belowN (by assumption) (by assumption) (by omega) | exact there_belowN (by assumption) (by assumption) (by omega) | exact rangeAt_below (by assumption) (by assumption) | exact World.rangeAt_alloc (by assumption) _ | exact there_below (by assumption) (by assumption) | exact World.there_alloc (by assumption) _ | exact World.there_setCells (by assumption) _ _ _ | exact Row.belowS (by assumption) (by assumption) | exact Row.alloc (by assumption) _ | exact Row.setCells (by assumption) _ _ (by omega) | exact HS.below (by assumption) (by assumption) | exact HS.alloc (by assumption) _)
  clear hK K
  try simp only [Act.put, List.setIfInBounds_toArray, List.set_cons_zero, List.set_cons_succ]
  refine wpAnyH_take (i := 12) (oi := { dst := some 6, op := Op.assign (Operand.tmp 33), type := 29, pos := "ref.go:106", after := #[{ on := 11, ground := Ground.data }, { on := 11, ground := Ground.chain }, { on := 0, ground := Ground.phase }, { on := 1, ground := Ground.phase }, { on := 2, ground := Ground.phase }, { on := 3, ground := Ground.phase }, { on := 4, ground := Ground.phase }, { on := 5, ground := Ground.phase }, { on := 6, ground := Ground.phase }, { on := 7, ground := Ground.phase }, { on := 8, ground := Ground.phase }, { on := 9, ground := Ground.phase }, { on := 10, ground := Ground.phase }, { on := 11, ground := Ground.phase }], guard := none }) (v := ?v12_8) rfl (by kernel_rfl) (by kernel_rfl) (by kernel_rfl) (fun _ _ _ h => h) (Or.inl ⟨by rfl, ?y12_8⟩) (by assumption) ?r12_8
  case y12_8 => intro w hSw; (try dsimp only at hSw); go_simp; try with_reducible rfl
  try simp only [Act.put, List.setIfInBounds_toArray, List.set_cons_zero, List.set_cons_succ]
  refine wpAnyH_done (by kernel_rfl) ?_ _
  refine NoPanic.normal ?_
  have hfin := Lib.hid hHeld.bel
  have HX := Lib.hid hown3
  clear hHeld hb hb2 hb3 hg3 hown hown2 hown3 hM4
  go_wp2
  go_ret
  exact ⟨_, rfl, HX.out, hfin.out⟩

set_option maxHeartbeats 2000000 in
set_option maxRecDepth 100000 in
theorem qsub_right (v : Value) (ls : List (List UInt8)) (i : Nat) (b : Bool) (w : World)  (hv : HS w v ls) (h2 : 2 ≤ ls.length) (hml : i ≠ ls.length) (hik : ¬ i ≤ hlf ls.length) (h1 : 1 ≤ i) (hil : i ≤ ls.length) (hmax : ls.length ≤ 999)
    (IH : ∀ (v' : Value) (ls' : List (List UInt8)) (i' : Nat) (b' : Bool) (w' : World) , ls'.length < ls.length → 1 ≤ i' → i' ≤ ls'.length → HS w' v' ls' → Calls Try.prog 54 #[v', .int .i64 (i' : Int), .bool b'] w' fun e w'' => ∃ u, e = .returned u ∧ OHS w'' w'.heap.size u (growL ls' i' b') ∧ Below w'.heap.size w' w'') :
    Calls Try.prog 54 #[v, .int .i64 (i : Int), .bool b] w fun e w' => ∃ u, e = .returned u ∧ OHS w' w.heap.size u (growL ls i b) ∧ Below w.heap.size w w' := by
  obtain ⟨C, c, rfl, hc, -⟩ := hv.form
  have hk := hlf_range ls.length h2
  have hh := fun w => split_any ls.length (by omega) w
  have hws := growL_size _ (ls.drop (hlf ls.length)) (i - hlf ls.length) false (Nat.le_refl _)
  rw [List.length_drop] at hws
  rw [growL_right ls i b h2 hml hik]
  obtain ⟨k, hke⟩ : ∃ k, hlf ls.length = k := ⟨_, rfl⟩
  rw [hke] at hk hik hws ⊢
  simp only [hke] at hh
  obtain ⟨j, hj⟩ : ∃ j, i - k = j := ⟨_, rfl⟩
  rw [hj] at hws ⊢
  have hjw : IntKind.i64.wrap ((i : Int) - (k : Int)) = (j : Int) := by rw [IntWalk.i64_in _ (by omega)]; omega
  obtain ⟨n, hn⟩ : ∃ n, ls.length = n := ⟨_, rfl⟩
  obtain ⟨A, hA⟩ : ∃ A, w.heap.size = A := ⟨_, rfl⟩
  have ka := fun w => sums_runh C n c k (by omega) (k : Int) rfl w
  have kb := fun w => sums_run1 C n c k (by omega) (k : Int) rfl (n - k) (c - k) rfl rfl w
  have qa : ∀ w', Below A w w' → Calls Try.prog 54 #[.slice (cutS C c k) (n - k) (c - k), .int .i64 (j : Int), .bool false] w' fun e w'' => ∃ u, e = .returned u ∧ OHS w'' w'.heap.size u (growL (ls.drop k) j false) ∧ Below w'.heap.size w' w'' := fun w' hb' =>
    IH _ _ _ _ _  (by rw [List.length_drop]; omega) (by omega) (by rw [List.length_drop]; omega) ((hv.below (by rw [hA]; exact hb')).drop k (n - k) (c - k) (by omega) (by omega) rfl)
  have qb : ∀ w', Below A w w' → Calls Try.prog 23 #[.slice C k c] w' fun e w'' => e = .returned (.agg (enc8 (rootL (ls.take k))).toArray) ∧ Below w'.heap.size w' w'' := fun w' hb' =>
    qroot_any (ls.length + 1) _ _ _ (by rw [List.length_take]; omega) ((hv.below (by rw [hA]; exact hb')).take k (by omega))
  have lb := rootL_length (ls.take k) (fun x hx => hv.all x (List.mem_of_mem_take hx))
  obtain ⟨rb, hrb⟩ : ∃ rb, rootL (ls.take k) = rb := ⟨_, rfl⟩
  rw [hrb] at lb
  simp only [hrb] at qb
  rw [hrb]
  obtain ⟨wy, hwy⟩ : ∃ wy, growL (ls.drop k) j false = wy := ⟨_, rfl⟩
  rw [hwy] at hws ⊢
  simp only [hwy] at qa
  obtain ⟨ab, hab⟩ : ∃ ab, enc8 rb = ab := ⟨_, rfl⟩
  simp only [hab] at qb
  have hn1 : ((i : Int) == (n : Int)) = false := by simp; omega
  have hn1' : i ≠ n := by omega
  have hd : decide ((i : Int) ≤ (k : Int)) = false := by simp; omega
  have hwl : wy.length + 1 ≤ 1000000 := by omega
  
  rw [hn] at hh hv ⊢
  have QA := Lib.hid qa
  have QB := Lib.hid qb
  have HH := Lib.hid hh
  have LB := Lib.hid lb
  have HAB := Lib.hid hab
  have HWL := Lib.hid hwl
  have M0 : Hid (Mine A w w) := ⟨by omega, Below.refl _ _⟩
  clear IH hv qa qb hh h2 hk hc lb hrb hab hke hn hws hwy hwl hml h1 hil 
  rw [hA]
  go_enter Try.func54, Try.ntmps54
  go_wp2_with fail
  refine (HH.out _).mono ?_
  rintro e w1 ⟨rfl, rfl⟩
  go_wp2_with fail
  refine wp_region_noPanic ?_
  refine wp_region_held_drew (S := (fun w' => Mine A w1 w')) (by kernel_rfl) ?_ (fun hHeld => ?_)
  · exact ⟨M0.out.le, M0.out.bel.drew⟩
  refine wpAnyH_take (i := 0) (oi := { dst := some 34, op := Op.move (Operand.tmp 0), type := 29, pos := "ref.go:108", after := #[], guard := none }) (v := ?v0_9) rfl (by kernel_rfl) (by kernel_rfl) (by kernel_rfl) (fun _ _ _ h => h) (Or.inl ⟨by rfl, ?y0_9⟩) (by assumption) ?r0_9
  case y0_9 => intro w hSw; (try dsimp only at hSw); go_simp; try with_reducible rfl
  try simp only [Act.put, List.setIfInBounds_toArray, List.set_cons_zero, List.set_cons_succ]
  refine wpAnyH_take (i := 1) (oi := { dst := some 35, op := Op.move (Operand.tmp 7), type := 3, pos := "ref.go:108", after := #[], guard := none }) (v := ?v1_10) rfl (by kernel_rfl) (by kernel_rfl) (by kernel_rfl) (fun _ _ _ h => h) (Or.inl ⟨by rfl, ?y1_10⟩) (by assumption) ?r1_10
  case y1_10 => intro w hSw; (try dsimp only at hSw); go_simp; try with_reducible rfl
  try simp only [Act.put, List.setIfInBounds_toArray, List.set_cons_zero, List.set_cons_succ]
  refine wpAnyH_take (i := 2) (oi := { dst := some 36, op := Op.slice 29 (Operand.tmp 34) (some (Operand.tmp 35)) none none, type := 29, pos := "ref.go:108", after := #[{ on := 0, ground := Ground.data }, { on := 1, ground := Ground.data }], guard := none }) (v := ?v2_11) rfl (by kernel_rfl) (by kernel_rfl) (by kernel_rfl) (fun _ _ _ h => h) (Or.inl ⟨by rfl, ?y2_11⟩) (by assumption) ?r2_11
  case y2_11 => intro w hSw; (try dsimp only at hSw); go_simp; try with_reducible rfl
  try simp only [Act.put, List.setIfInBounds_toArray, List.set_cons_zero, List.set_cons_succ]
  refine wpAnyH_take (i := 3) (oi := { dst := some 37, op := Op.move (Operand.tmp 1), type := 3, pos := "ref.go:108", after := #[], guard := none }) (v := ?v3_12) rfl (by kernel_rfl) (by kernel_rfl) (by kernel_rfl) (fun _ _ _ h => h) (Or.inl ⟨by rfl, ?y3_12⟩) (by assumption) ?r3_12
  case y3_12 => intro w hSw; (try dsimp only at hSw); go_simp; try with_reducible rfl
  try simp only [Act.put, List.setIfInBounds_toArray, List.set_cons_zero, List.set_cons_succ]
  refine wpAnyH_take (i := 4) (oi := { dst := some 38, op := Op.move (Operand.tmp 7), type := 3, pos := "ref.go:108", after := #[], guard := none }) (v := ?v4_13) rfl (by kernel_rfl) (by kernel_rfl) (by kernel_rfl) (fun _ _ _ h => h) (Or.inl ⟨by rfl, ?y4_13⟩) (by assumption) ?r4_13
  case y4_13 => intro w hSw; (try dsimp only at hSw); go_simp; try with_reducible rfl
  try simp only [Act.put, List.setIfInBounds_toArray, List.set_cons_zero, List.set_cons_succ]
  refine wpAnyH_take (i := 5) (oi := { dst := some 39, op := Op.binOp BinOp.sub 3 (Operand.tmp 37) (Operand.tmp 38) 3, type := 3, pos := "ref.go:108", after := #[{ on := 3, ground := Ground.data }, { on := 4, ground := Ground.data }], guard := none }) (v := ?v5_14) rfl (by kernel_rfl) (by kernel_rfl) (by kernel_rfl) (fun _ _ _ h => h) (Or.inl ⟨by rfl, ?y5_14⟩) (by assumption) ?r5_14
  case y5_14 => intro w hSw; (try dsimp only at hSw); go_simp; try with_reducible rfl
  try simp only [Act.put, List.setIfInBounds_toArray, List.set_cons_zero, List.set_cons_succ]
  refine wpAnyH_take (i := 7) (oi := { dst := some 41, op := Op.move (Operand.tmp 0), type := 29, pos := "ref.go:108", after := #[], guard := none }) (v := ?v7_15) rfl (by kernel_rfl) (by kernel_rfl) (by kernel_rfl) (fun _ _ _ h => h) (Or.inl ⟨by rfl, ?y7_15⟩) (by assumption) ?r7_15
  case y7_15 => intro w hSw; (try dsimp only at hSw); go_simp; try with_reducible rfl
  try simp only [Act.put, List.setIfInBounds_toArray, List.set_cons_zero, List.set_cons_succ]
  refine wpAnyH_take (i := 8) (oi := { dst := some 42, op := Op.move (Operand.tmp 7), type := 3, pos := "ref.go:108", after := #[], guard := none }) (v := ?v8_16) rfl (by kernel_rfl) (by kernel_rfl) (by kernel_rfl) (fun _ _ _ h => h) (Or.inl ⟨by rfl, ?y8_16⟩) (by assumption) ?r8_16
  case y8_16 => intro w hSw; (try dsimp only at hSw); go_simp; try with_reducible rfl
  try simp only [Act.put, List.setIfInBounds_toArray, List.set_cons_zero, List.set_cons_succ]
  refine wpAnyH_take (i := 9) (oi := { dst := some 43, op := Op.slice 29 (Operand.tmp 41) none (some (Operand.tmp 42)) none, type := 29, pos := "ref.go:108", after := #[{ on := 7, ground := Ground.data }, { on := 8, ground := Ground.data }], guard := none }) (v := ?v9_17) rfl (by kernel_rfl) (by kernel_rfl) (by kernel_rfl) (fun _ _ _ h => h) (Or.inl ⟨by rfl, ?y9_17⟩) (by assumption) ?r9_17
  case y9_17 => intro w hSw; (try dsimp only at hSw); go_simp; try with_reducible rfl
  try simp only [Act.put, List.setIfInBounds_toArray, List.set_cons_zero, List.set_cons_succ]
  refine wpAnyH_ready (rs := [6]) (by kernel_rfl) (by simp) (AllReadyH.cons (o := { dst := some 40, op := Op.call { callee := Callee.value (Operand.func 54), args := #[Operand.tmp 36, Operand.tmp 39, Operand.const (Value.bool false)], argTypes := #[29, 3, 4] }, type := 29, pos := "ref.go:108", after := #[{ on := 2, ground := Ground.data }, { on := 5, ground := Ground.data }], guard := none }) rfl (fun K hK => ?_) AllReadyH.nil)
  go_simp
  have hM4 := hHeld; refine (QA.out _ hHeld.bel).mono ?_; rintro e w' ⟨u, rfl, hown, hb⟩
  go_wp2_with fail
  refine hK.out _ _ ?_ (fun hHeld => ?_)
  · (try dsimp only); (go_split_ands; (repeat' apply And.intro) <;> first | assumption | exact Mine.call (by assumption) (by assumption) | exact Mine.alloc (by assumption) _ | exact Mine.setCells (by assumption) _ _ _ (by omega) | exact Mine.callN (by assumption) (by assumption) (by omega) | exact Row.belowN (by assumption) (by assumption) (by omega) | exact there_belowN (by assumption) (by assumption) (by omega) | exact rangeAt_below (by assumption) (by assumption) | exact World.rangeAt_alloc (by assumption) _ | exact there_below (by assumption) (by assumption) | exact World.there_alloc (by assumption) _ | exact World.there_setCells (by assumption) _ _ _ | exact Row.belowS (by assumption) (by assumption) | exact Row.alloc (by assumption) _ | exact Row.setCells (by assumption) _ _ (by omega) | exact HS.below (by assumption) (by assumption) | exact HS.alloc (by assumption) _)
  clear hK K
  try simp only [Act.put, List.setIfInBounds_toArray, List.set_cons_zero, List.set_cons_succ]
  refine wpAnyH_ready (rs := [10]) (by kernel_rfl) (by simp) (AllReadyH.cons (o := { dst := some 44, op := Op.call { callee := Callee.value (Operand.func 23), args := #[Operand.tmp 43], argTypes := #[29] }, type := 24, pos := "ref.go:108", after := #[{ on := 9, ground := Ground.data }, { on := 6, ground := Ground.chain }], guard := none }) rfl (fun K hK => ?_) AllReadyH.nil)
  go_simp
  refine (QB.out _ hHeld.bel).mono ?_; rintro e w2 ⟨rfl, hb2⟩; have hown2 := (hown.below hb2).mono hM4.le
  go_wp2_with fail
  refine hK.out _ _ ?_ (fun hHeld => ?_)
  · (try dsimp only); (go_split_ands; (repeat' apply And.intro) <;> first | assumption | exact Mine.call (by assumption) (by assumption) | exact Mine.alloc (by assumption) _ | exact Mine.setCells (by assumption) _ _ _ (by omega) | exact Mine.callN (by assumption) (by assumption) (by omega) | exact Row.belowN (by assumption) (by assumption) (by omega) | exact there_belowN (by assumption) (by assumption) (by omega) | exact rangeAt_below (by assumption) (by assumption) | exact World.rangeAt_alloc (by assumption) _ | exact there_below (by assumption) (by assumption) | exact World.there_alloc (by assumption) _ | exact World.there_setCells (by assumption) _ _ _ | exact Row.belowS (by assumption) (by assumption) | exact Row.alloc (by assumption) _ | exact Row.setCells (by assumption) _ _ (by omega) | exact HS.below (by assumption) (by assumption) | exact HS.alloc (by assumption) _)
  clear hK K
  try simp only [Act.put, List.setIfInBounds_toArray, List.set_cons_zero, List.set_cons_succ]
  refine wpAnyH_ready (rs := [11]) (by kernel_rfl) (by simp) (AllReadyH.cons (o := { dst := some 45, op := Op.buildSlice 29 1 #[(0, Operand.tmp 44)], type := 29, pos := "ref.go:108", after := #[{ on := 10, ground := Ground.data }], guard := none }) rfl (fun K hK => ?_) AllReadyH.nil)
  refine stepS_build rfl 1 _ rfl [ab] (by simp [← HAB.out, enc8_len, LB.out]) rfl (by decide) (by decide) (by rw [Array.toList_map]; rfl) ?_; rw [show ([ab] : List (List Value)).flatMap id = ab by simp]
  refine hK.out _ _ ?_ (fun hHeld => ?_)
  · (try dsimp only); (go_split_ands; (repeat' apply And.intro) <;> first | assumption | exact Mine.call (by assumption) (by assumption) | exact Mine.alloc (by assumption) _ | exact Mine.setCells (by assumption) _ _ _ (by omega) | exact Mine.callN (by assumption) (by assumption) (by omega) | exact Row.belowN (by assumption) (by assumption) (by omega) | exact there_belowN (by assumption) (by assumption) (by omega) | exact rangeAt_below (by assumption) (by assumption) | exact World.rangeAt_alloc (by assumption) _ | exact there_below (by assumption) (by assumption) | exact World.there_alloc (by assumption) _ | exact World.there_setCells (by assumption) _ _ _ | exact Row.belowS (by assumption) (by assumption) | exact Row.alloc (by assumption) _ | exact Row.setCells (by assumption) _ _ (by omega) | exact HS.below (by assumption) (by assumption) | exact HS.alloc (by assumption) _)
  clear hK K
  try simp only [Act.put, List.setIfInBounds_toArray, List.set_cons_zero, List.set_cons_succ]
  refine wpAnyH_ready (rs := [12]) (by kernel_rfl) (by simp) (AllReadyH.cons (o := { dst := some 46, op := Op.call { callee := Callee.builtin Builtin.append, args := #[Operand.tmp 40, Operand.tmp 45], argTypes := #[29, 29] }, type := 29, pos := "ref.go:108", after := #[{ on := 6, ground := Ground.data }, { on := 11, ground := Ground.data }, { on := 10, ground := Ground.chain }], guard := none }) rfl (fun K hK => ?_) AllReadyH.nil)
  refine stepS_append rfl (.tmp 40) (.tmp 45) rfl A u wy w2.heap.size 24 rb 1 rfl (hown2.alloc _) rfl (by rw [HAB.out]; exact Row.new w2 ab.toArray 24) LB.out HWL.out (by have := hHeld.le; exact this) ?_; intro v3 w3 hown3 hg3 hb3
  refine hK.out _ _ ?_ (fun hHeld => ?_)
  · (try dsimp only); (go_split_ands; (repeat' apply And.intro) <;> first | assumption | exact Mine.call (by assumption) (by assumption) | exact Mine.alloc (by assumption) _ | exact Mine.setCells (by assumption) _ _ _ (by omega) | exact Mine.callN (by assumption) (by assumption) (by omega) | exact Row.belowN (by assumption) (by assumption) (by omega) | exact there_belowN (by assumption) (by assumption) (by omega) | exact rangeAt_below (by assumption) (by assumption) | exact World.rangeAt_alloc (by assumption) _ | exact there_below (by assumption) (by assumption) | exact World.there_alloc (by assumption) _ | exact World.there_setCells (by assumption) _ _ _ | exact Row.belowS (by assumption) (by assumption) | exact Row.alloc (by assumption) _ | exact Row.setCells (by assumption) _ _ (by omega) | exact HS.below (by assumption) (by assumption) | exact HS.alloc (by assumption) _)
  clear hK K
  try simp only [Act.put, List.setIfInBounds_toArray, List.set_cons_zero, List.set_cons_succ]
  refine wpAnyH_take (i := 13) (oi := { dst := some 6, op := Op.assign (Operand.tmp 46), type := 29, pos := "ref.go:108", after := #[{ on := 12, ground := Ground.data }, { on := 12, ground := Ground.chain }, { on := 0, ground := Ground.phase }, { on := 1, ground := Ground.phase }, { on := 2, ground := Ground.phase }, { on := 3, ground := Ground.phase }, { on := 4, ground := Ground.phase }, { on := 5, ground := Ground.phase }, { on := 6, ground := Ground.phase }, { on := 7, ground := Ground.phase }, { on := 8, ground := Ground.phase }, { on := 9, ground := Ground.phase }, { on := 10, ground := Ground.phase }, { on := 11, ground := Ground.phase }, { on := 12, ground := Ground.phase }], guard := none }) (v := ?v13_18) rfl (by kernel_rfl) (by kernel_rfl) (by kernel_rfl) (fun _ _ _ h => h) (Or.inl ⟨by rfl, ?y13_18⟩) (by assumption) ?r13_18
  case y13_18 => intro w hSw; (try dsimp only at hSw); go_simp; try with_reducible rfl
  try simp only [Act.put, List.setIfInBounds_toArray, List.set_cons_zero, List.set_cons_succ]
  refine wpAnyH_done (by kernel_rfl) ?_ _
  refine NoPanic.normal ?_
  have hfin := Lib.hid hHeld.bel
  have HX := Lib.hid hown3
  clear hHeld hb hb2 hb3 hg3 hown hown2 hown3 hM4
  go_wp2
  go_ret
  exact ⟨_, rfl, HX.out, hfin.out⟩

theorem qsub_any : ∀ (N : Nat) (v : Value) (ls : List (List UInt8)) (i : Nat) (b : Bool) (w : World) , ls.length < N → ls.length ≤ 999 → 1 ≤ i → i ≤ ls.length → HS w v ls →
    Calls Try.prog 54 #[v, .int .i64 (i : Int), .bool b] w fun e w' => ∃ u, e = .returned u ∧ OHS w' w.heap.size u (growL ls i b) ∧ Below w.heap.size w w'
  | 0, _, _, _, _, _,  h, _, _, _, _ => absurd h (Nat.not_lt_zero _)
  | N + 1, v, ls, i, b, w,  h, hm, h1, hi, hv => by
    by_cases he : i = ls.length
    · subst he
      exact qsub_base v ls b w  hv hm
    · by_cases hik : i ≤ hlf ls.length
      · exact qsub_left v ls i b w  hv (by omega) he hik h1 hi hm fun v' ls' i' b' w'  hlt h1' hi' hv' => qsub_any N v' ls' i' b' w'  (by omega) (by omega) h1' hi' hv'
      · exact qsub_right v ls i b w  hv (by omega) he hik h1 hi hm fun v' ls' i' b' w'  hlt h1' hi' hv' => qsub_any N v' ls' i' b' w'  (by omega) (by omega) h1' hi' hv'

/-- Growth's inner function, as a value -/
def fvG (D : Nat) : Value := .func (.func 53) #[] #[.pointer (some ⟨D, 0, none⟩)]

set_option maxHeartbeats 2000000 in
set_option maxRecDepth 100000 in
theorem gro_base (v : Value) (ls : List (List UInt8)) (b : Bool) (w : World) (D : Nat) (hD : w.cell? ⟨D, 0, none⟩ = some (fvG D)) (hv : HS w v ls) (hmax : ls.length ≤ 999) :
    Calls Try.prog 53 #[v, .int .i64 (ls.length : Int), .bool b, .pointer (some ⟨D, 0, none⟩)] w fun e w' => ∃ u, e = .returned u ∧ OHS w' w.heap.size u (growL ls ls.length b) ∧ Below w.heap.size w w' := by
  obtain ⟨C, c, rfl, hc, -⟩ := hv.form
  rw [growL_base]
  have hr := root_any (ls.length + 1) _ ls w (by omega) hv
  have hl := rootL_length ls hv.all
  obtain ⟨r, hre⟩ : ∃ r, rootL ls = r := ⟨_, rfl⟩
  rw [hre] at hl hr ⊢
  obtain ⟨ar, har⟩ : ∃ ar, enc8 r = ar := ⟨_, rfl⟩
  rw [har] at hr
  obtain ⟨n, hn⟩ : ∃ n, ls.length = n := ⟨_, rfl⟩
  rw [hn] at hr ⊢
  have HR := Lib.hid hr
  have HL := Lib.hid hl
  have HAR := Lib.hid har
  clear hr hl har hre hn hv hmax hc
  cases b with
  | true =>
    go_enter Try.func53, Try.ntmps53
    go_wp2
    go_ret
    exact ⟨_, rfl, OHS_nil _ _, Below.refl _ _⟩
  | false =>
    go_enter Try.func53, Try.ntmps53
    go_wp2_with fail
    refine HR.out.mono ?_
    rintro e w1 ⟨rfl, hb1⟩
    have m1 : Mine w.heap.size w w1 := ⟨hb1.size, hb1⟩
    have o1 := OHS_new w1 w.heap.size [r] ar (by simp [encS, HAR.out]) (by simp [HL.out]) (by simp) 1 rfl hb1.size
    have HO := Lib.hid o1
    have HM := Lib.hid (m1.alloc (.cells ar.toArray 24))
    clear hb1 m1 o1 HR
    go_wp2_with (refine wpS_build rfl 1 _ rfl [ar] (by simp [← HAR.out, enc8_len, HL.out]) rfl (by decide) (by decide) (by rw [Array.toList_map]; rfl) ?_; rw [show ([ar] : List (List Value)).flatMap id = ar by simp])
    go_ret
    exact ⟨_, rfl, HO.out, HM.out.bel⟩

set_option maxHeartbeats 2000000 in
set_option maxRecDepth 100000 in
theorem gro_left (v : Value) (ls : List (List UInt8)) (i : Nat) (b : Bool) (w : World) (D : Nat) (hD : w.cell? ⟨D, 0, none⟩ = some (fvG D)) (hv : HS w v ls) (h2 : 2 ≤ ls.length) (hml : i ≠ ls.length) (hik :  i ≤ hlf ls.length) (h1 : 1 ≤ i) (hil : i ≤ ls.length) (hmax : ls.length ≤ 999)
    (IH : ∀ (v' : Value) (ls' : List (List UInt8)) (i' : Nat) (b' : Bool) (w' : World) (_ : w'.cell? ⟨D, 0, none⟩ = some (fvG D)), ls'.length < ls.length → 1 ≤ i' → i' ≤ ls'.length → HS w' v' ls' → Calls Try.prog 53 #[v', .int .i64 (i' : Int), .bool b', .pointer (some ⟨D, 0, none⟩)] w' fun e w'' => ∃ u, e = .returned u ∧ OHS w'' w'.heap.size u (growL ls' i' b') ∧ Below w'.heap.size w' w'') :
    Calls Try.prog 53 #[v, .int .i64 (i : Int), .bool b, .pointer (some ⟨D, 0, none⟩)] w fun e w' => ∃ u, e = .returned u ∧ OHS w' w.heap.size u (growL ls i b) ∧ Below w.heap.size w w' := by
  obtain ⟨C, c, rfl, hc, -⟩ := hv.form
  have hk := hlf_range ls.length h2
  have hh := fun w => half_any ls.length (by omega) w
  have hws := growL_size _ (ls.take (hlf ls.length)) (i) b (Nat.le_refl _)
  rw [List.length_take] at hws
  rw [growL_left ls i b h2 hml hik]
  obtain ⟨k, hke⟩ : ∃ k, hlf ls.length = k := ⟨_, rfl⟩
  rw [hke] at hk hik hws ⊢
  simp only [hke] at hh
  have hjj := hik
  obtain ⟨n, hn⟩ : ∃ n, ls.length = n := ⟨_, rfl⟩
  obtain ⟨A, hA⟩ : ∃ A, w.heap.size = A := ⟨_, rfl⟩
  have ka := fun w => sums_runh C n c k (by omega) (k : Int) rfl w
  have kb := fun w => sums_run1 C n c k (by omega) (k : Int) rfl (n - k) (c - k) rfl rfl w
  have qa : ∀ w', Below A w w' → Calls Try.prog 53 #[.slice C k c, .int .i64 (i : Int), .bool b, .pointer (some ⟨D, 0, none⟩)] w' fun e w'' => ∃ u, e = .returned u ∧ OHS w'' w'.heap.size u (growL (ls.take k) i b) ∧ Below w'.heap.size w' w'' := fun w' hb' =>
    IH _ _ _ _ _ ((hb'.cell (p := ⟨D, 0, none⟩) (by rw [← hA]; exact World.block_lt_of_cell? w _ hD)).trans hD) (by rw [List.length_take]; omega) (by omega) (by rw [List.length_take]; omega) ((hv.below (by rw [hA]; exact hb')).take k (by omega))
  have qb : ∀ w', Below A w w' → Calls Try.prog 22 #[.slice (cutS C c k) (n - k) (c - k)] w' fun e w'' => e = .returned (.agg (enc8 (rootL (ls.drop k))).toArray) ∧ Below w'.heap.size w' w'' := fun w' hb' =>
    root_any (ls.length + 1) _ _ _ (by rw [List.length_drop]; omega) ((hv.below (by rw [hA]; exact hb')).drop k (n - k) (c - k) (by omega) (by omega) rfl)
  have lb := rootL_length (ls.drop k) (fun x hx => hv.all x (List.mem_of_mem_drop hx))
  obtain ⟨rb, hrb⟩ : ∃ rb, rootL (ls.drop k) = rb := ⟨_, rfl⟩
  rw [hrb] at lb
  simp only [hrb] at qb
  rw [hrb]
  obtain ⟨wy, hwy⟩ : ∃ wy, growL (ls.take k) i b = wy := ⟨_, rfl⟩
  rw [hwy] at hws ⊢
  simp only [hwy] at qa
  obtain ⟨ab, hab⟩ : ∃ ab, enc8 rb = ab := ⟨_, rfl⟩
  simp only [hab] at qb
  have hn1 : ((i : Int) == (n : Int)) = false := by simp; omega
  have hn1' : i ≠ n := by omega
  have hd : decide ((i : Int) ≤ (k : Int)) = true := by simp; omega
  have hwl : wy.length + 1 ≤ 1000000 := by omega
  have ce : ∀ w', Mine A w w' → w'.cell? ⟨D, 0, none⟩ = some (fvG D) := fun w' hm => (hm.bel.cell (p := ⟨D, 0, none⟩) (by rw [← hA]; exact World.block_lt_of_cell? w _ hD)).trans hD
  have CE := Lib.hid ce
  rw [hn] at hh hv ⊢
  have QA := Lib.hid qa
  have QB := Lib.hid qb
  have HH := Lib.hid hh
  have LB := Lib.hid lb
  have HAB := Lib.hid hab
  have HWL := Lib.hid hwl
  have M0 : Hid (Mine A w w) := ⟨by omega, Below.refl _ _⟩
  clear IH hv qa qb hh h2 hk hc lb hrb hab hke hn hws hwy hwl hml h1 hil ce hD
  rw [hA]
  go_enter Try.func53, Try.ntmps53
  go_wp2_with fail
  refine (HH.out _).mono ?_
  rintro e w1 ⟨rfl, rfl⟩
  go_wp2_with fail
  refine wp_region_noPanic ?_
  refine wp_region_held_drew (S := (fun w' => Mine A w1 w')) (by kernel_rfl) ?_ (fun hHeld => ?_)
  · exact ⟨M0.out.le, M0.out.bel.drew⟩
  refine wpAnyH_take (i := 1) (oi := { dst := some 24, op := Op.move (Operand.tmp 0), type := 29, pos := "merkle.go:109", after := #[], guard := none }) (v := ?v1_19) rfl (by kernel_rfl) (by kernel_rfl) (by kernel_rfl) (fun _ _ _ h => h) (Or.inl ⟨by rfl, ?y1_19⟩) (by assumption) ?r1_19
  case y1_19 => intro w hSw; (try dsimp only at hSw); go_simp; try with_reducible rfl
  try simp only [Act.put, List.setIfInBounds_toArray, List.set_cons_zero, List.set_cons_succ]
  refine wpAnyH_take (i := 2) (oi := { dst := some 25, op := Op.move (Operand.tmp 8), type := 3, pos := "merkle.go:109", after := #[], guard := none }) (v := ?v2_20) rfl (by kernel_rfl) (by kernel_rfl) (by kernel_rfl) (fun _ _ _ h => h) (Or.inl ⟨by rfl, ?y2_20⟩) (by assumption) ?r2_20
  case y2_20 => intro w hSw; (try dsimp only at hSw); go_simp; try with_reducible rfl
  try simp only [Act.put, List.setIfInBounds_toArray, List.set_cons_zero, List.set_cons_succ]
  refine wpAnyH_take (i := 3) (oi := { dst := some 26, op := Op.slice 29 (Operand.tmp 24) none (some (Operand.tmp 25)) none, type := 29, pos := "merkle.go:109", after := #[{ on := 1, ground := Ground.data }, { on := 2, ground := Ground.data }], guard := none }) (v := ?v3_21) rfl (by kernel_rfl) (by kernel_rfl) (by kernel_rfl) (fun _ _ _ h => h) (Or.inl ⟨by rfl, ?y3_21⟩) (by assumption) ?r3_21
  case y3_21 => intro w hSw; (try dsimp only at hSw); go_simp; try with_reducible rfl
  try simp only [Act.put, List.setIfInBounds_toArray, List.set_cons_zero, List.set_cons_succ]
  refine wpAnyH_take (i := 4) (oi := { dst := some 27, op := Op.move (Operand.tmp 1), type := 3, pos := "merkle.go:109", after := #[], guard := none }) (v := ?v4_22) rfl (by kernel_rfl) (by kernel_rfl) (by kernel_rfl) (fun _ _ _ h => h) (Or.inl ⟨by rfl, ?y4_22⟩) (by assumption) ?r4_22
  case y4_22 => intro w hSw; (try dsimp only at hSw); go_simp; try with_reducible rfl
  try simp only [Act.put, List.setIfInBounds_toArray, List.set_cons_zero, List.set_cons_succ]
  refine wpAnyH_take (i := 5) (oi := { dst := some 28, op := Op.move (Operand.tmp 2), type := 4, pos := "merkle.go:109", after := #[], guard := none }) (v := ?v5_23) rfl (by kernel_rfl) (by kernel_rfl) (by kernel_rfl) (fun _ _ _ h => h) (Or.inl ⟨by rfl, ?y5_23⟩) (by assumption) ?r5_23
  case y5_23 => intro w hSw; (try dsimp only at hSw); go_simp; try with_reducible rfl
  try simp only [Act.put, List.setIfInBounds_toArray, List.set_cons_zero, List.set_cons_succ]
  refine wpAnyH_take (i := 7) (oi := { dst := some 30, op := Op.move (Operand.tmp 0), type := 29, pos := "merkle.go:109", after := #[], guard := none }) (v := ?v7_24) rfl (by kernel_rfl) (by kernel_rfl) (by kernel_rfl) (fun _ _ _ h => h) (Or.inl ⟨by rfl, ?y7_24⟩) (by assumption) ?r7_24
  case y7_24 => intro w hSw; (try dsimp only at hSw); go_simp; try with_reducible rfl
  try simp only [Act.put, List.setIfInBounds_toArray, List.set_cons_zero, List.set_cons_succ]
  refine wpAnyH_take (i := 8) (oi := { dst := some 31, op := Op.move (Operand.tmp 8), type := 3, pos := "merkle.go:109", after := #[], guard := none }) (v := ?v8_25) rfl (by kernel_rfl) (by kernel_rfl) (by kernel_rfl) (fun _ _ _ h => h) (Or.inl ⟨by rfl, ?y8_25⟩) (by assumption) ?r8_25
  case y8_25 => intro w hSw; (try dsimp only at hSw); go_simp; try with_reducible rfl
  try simp only [Act.put, List.setIfInBounds_toArray, List.set_cons_zero, List.set_cons_succ]
  refine wpAnyH_take (i := 9) (oi := { dst := some 32, op := Op.slice 29 (Operand.tmp 30) (some (Operand.tmp 31)) none none, type := 29, pos := "merkle.go:109", after := #[{ on := 7, ground := Ground.data }, { on := 8, ground := Ground.data }], guard := none }) (v := ?v9_26) rfl (by kernel_rfl) (by kernel_rfl) (by kernel_rfl) (fun _ _ _ h => h) (Or.inl ⟨by rfl, ?y9_26⟩) (by assumption) ?r9_26
  case y9_26 => intro w hSw; (try dsimp only at hSw); go_simp; try with_reducible rfl
  try simp only [Act.put, List.setIfInBounds_toArray, List.set_cons_zero, List.set_cons_succ]
  refine wpAnyH_take (i := 0) (oi := { dst := some 23, op := Op.load 79 (Operand.tmp 3), type := 79, pos := "merkle.go:109", after := #[], guard := none }) (v := ?v0_27) rfl (by kernel_rfl) (by kernel_rfl) (by kernel_rfl) (fun _ _ _ h => h) (Or.inl ⟨by rfl, ?y0_27⟩) (by assumption) ?r0_27
  case y0_27 => intro w hSw; (try dsimp only at hSw); have hc := CE.out _ hSw; unfold fvG at hc; go_simp; try with_reducible rfl
  try simp only [Act.put, List.setIfInBounds_toArray, List.set_cons_zero, List.set_cons_succ]
  refine wpAnyH_ready (rs := [6]) (by kernel_rfl) (by simp) (AllReadyH.cons (o := { dst := some 29, op := Op.call { callee := Callee.value (Operand.tmp 23), args := #[Operand.tmp 26, Operand.tmp 27, Operand.tmp 28], argTypes := #[29, 3, 4] }, type := 29, pos := "merkle.go:109", after := #[{ on := 0, ground := Ground.data }, { on := 3, ground := Ground.data }, { on := 4, ground := Ground.data }, { on := 5, ground := Ground.data }], guard := none }) rfl (fun K hK => ?_) AllReadyH.nil)
  go_simp
  have hM4 := hHeld; refine (QA.out _ hHeld.bel).mono ?_; rintro e w' ⟨u, rfl, hown, hb⟩
  go_wp2_with fail
  refine hK.out _ _ ?_ (fun hHeld => ?_)
  · (try dsimp only); (go_split_ands; (repeat' apply And.intro) <;> first | assumption | exact Mine.call (by assumption) (by assumption) | exact Mine.alloc (by assumption) _ | exact Mine.setCells (by assumption) _ _ _ (by omega) | exact Mine.callN (by assumption) (by assumption) (by omega) | exact Row.belowN (by assumption) (by assumption) (by omega) | exact there_belowN (by assumption) (by assumption) (by omega) | exact rangeAt_below (by assumption) (by assumption) | exact World.rangeAt_alloc (by assumption) _ | exact there_below (by assumption) (by assumption) | exact World.there_alloc (by assumption) _ | exact World.there_setCells (by assumption) _ _ _ | exact Row.belowS (by assumption) (by assumption) | exact Row.alloc (by assumption) _ | exact Row.setCells (by assumption) _ _ (by omega) | exact HS.below (by assumption) (by assumption) | exact HS.alloc (by assumption) _)
  clear hK K
  try simp only [Act.put, List.setIfInBounds_toArray, List.set_cons_zero, List.set_cons_succ]
  refine wpAnyH_ready (rs := [10]) (by kernel_rfl) (by simp) (AllReadyH.cons (o := { dst := some 33, op := Op.call { callee := Callee.value (Operand.func 22), args := #[Operand.tmp 32], argTypes := #[29] }, type := 24, pos := "merkle.go:109", after := #[{ on := 9, ground := Ground.data }, { on := 6, ground := Ground.chain }], guard := none }) rfl (fun K hK => ?_) AllReadyH.nil)
  go_simp
  refine (QB.out _ hHeld.bel).mono ?_; rintro e w2 ⟨rfl, hb2⟩; have hown2 := (hown.below hb2).mono hM4.le
  go_wp2_with fail
  refine hK.out _ _ ?_ (fun hHeld => ?_)
  · (try dsimp only); (go_split_ands; (repeat' apply And.intro) <;> first | assumption | exact Mine.call (by assumption) (by assumption) | exact Mine.alloc (by assumption) _ | exact Mine.setCells (by assumption) _ _ _ (by omega) | exact Mine.callN (by assumption) (by assumption) (by omega) | exact Row.belowN (by assumption) (by assumption) (by omega) | exact there_belowN (by assumption) (by assumption) (by omega) | exact rangeAt_below (by assumption) (by assumption) | exact World.rangeAt_alloc (by assumption) _ | exact there_below (by assumption) (by assumption) | exact World.there_alloc (by assumption) _ | exact World.there_setCells (by assumption) _ _ _ | exact Row.belowS (by assumption) (by assumption) | exact Row.alloc (by assumption) _ | exact Row.setCells (by assumption) _ _ (by omega) | exact HS.below (by assumption) (by assumption) | exact HS.alloc (by assumption) _)
  clear hK K
  try simp only [Act.put, List.setIfInBounds_toArray, List.set_cons_zero, List.set_cons_succ]
  refine wpAnyH_ready (rs := [11]) (by kernel_rfl) (by simp) (AllReadyH.cons (o := { dst := some 34, op := Op.buildSlice 29 1 #[(0, Operand.tmp 33)], type := 29, pos := "merkle.go:109", after := #[{ on := 10, ground := Ground.data }], guard := none }) rfl (fun K hK => ?_) AllReadyH.nil)
  refine stepS_build rfl 1 _ rfl [ab] (by simp [← HAB.out, enc8_len, LB.out]) rfl (by decide) (by decide) (by rw [Array.toList_map]; rfl) ?_; rw [show ([ab] : List (List Value)).flatMap id = ab by simp]
  refine hK.out _ _ ?_ (fun hHeld => ?_)
  · (try dsimp only); (go_split_ands; (repeat' apply And.intro) <;> first | assumption | exact Mine.call (by assumption) (by assumption) | exact Mine.alloc (by assumption) _ | exact Mine.setCells (by assumption) _ _ _ (by omega) | exact Mine.callN (by assumption) (by assumption) (by omega) | exact Row.belowN (by assumption) (by assumption) (by omega) | exact there_belowN (by assumption) (by assumption) (by omega) | exact rangeAt_below (by assumption) (by assumption) | exact World.rangeAt_alloc (by assumption) _ | exact there_below (by assumption) (by assumption) | exact World.there_alloc (by assumption) _ | exact World.there_setCells (by assumption) _ _ _ | exact Row.belowS (by assumption) (by assumption) | exact Row.alloc (by assumption) _ | exact Row.setCells (by assumption) _ _ (by omega) | exact HS.below (by assumption) (by assumption) | exact HS.alloc (by assumption) _)
  clear hK K
  try simp only [Act.put, List.setIfInBounds_toArray, List.set_cons_zero, List.set_cons_succ]
  refine wpAnyH_ready (rs := [12]) (by kernel_rfl) (by simp) (AllReadyH.cons (o := { dst := some 35, op := Op.call { callee := Callee.builtin Builtin.append, args := #[Operand.tmp 29, Operand.tmp 34], argTypes := #[29, 29] }, type := 29, pos := "merkle.go:109", after := #[{ on := 6, ground := Ground.data }, { on := 11, ground := Ground.data }, { on := 10, ground := Ground.chain }], guard := none }) rfl (fun K hK => ?_) AllReadyH.nil)
  refine stepS_append rfl (.tmp 29) (.tmp 34) rfl A u wy w2.heap.size 24 rb 1 rfl (hown2.alloc _) rfl (by rw [HAB.out]; exact Row.new w2 ab.toArray 24) LB.out HWL.out (by have := hHeld.le; exact this) ?_; intro v3 w3 hown3 hg3 hb3
  refine hK.out _ _ ?_ (fun hHeld => ?_)
  · (try dsimp only); (go_split_ands; (repeat' apply And.intro) <;> first | assumption | exact Mine.call (by assumption) (by assumption) | exact Mine.alloc (by assumption) _ | exact Mine.setCells (by assumption) _ _ _ (by omega) | exact Mine.callN (by assumption) (by assumption) (by omega) | exact Row.belowN (by assumption) (by assumption) (by omega) | exact there_belowN (by assumption) (by assumption) (by omega) | exact rangeAt_below (by assumption) (by assumption) | exact World.rangeAt_alloc (by assumption) _ | exact there_below (by assumption) (by assumption) | exact World.there_alloc (by assumption) _ | exact World.there_setCells (by assumption) _ _ _ | exact Row.belowS (by assumption) (by assumption) | exact Row.alloc (by assumption) _ | exact Row.setCells (by assumption) _ _ (by omega) | exact HS.below (by assumption) (by assumption) | exact HS.alloc (by assumption) _)
  clear hK K
  try simp only [Act.put, List.setIfInBounds_toArray, List.set_cons_zero, List.set_cons_succ]
  refine wpAnyH_take (i := 13) (oi := { dst := some 7, op := Op.assign (Operand.tmp 35), type := 29, pos := "merkle.go:109", after := #[{ on := 12, ground := Ground.data }, { on := 12, ground := Ground.chain }, { on := 0, ground := Ground.phase }, { on := 1, ground := Ground.phase }, { on := 2, ground := Ground.phase }, { on := 3, ground := Ground.phase }, { on := 4, ground := Ground.phase }, { on := 5, ground := Ground.phase }, { on := 6, ground := Ground.phase }, { on := 7, ground := Ground.phase }, { on := 8, ground := Ground.phase }, { on := 9, ground := Ground.phase }, { on := 10, ground := Ground.phase }, { on := 11, ground := Ground.phase }, { on := 12, ground := Ground.phase }], guard := none }) (v := ?v13_28) rfl (by kernel_rfl) (by kernel_rfl) (by kernel_rfl) (fun _ _ _ h => h) (Or.inl ⟨by rfl, ?y13_28⟩) (by assumption) ?r13_28
  case y13_28 => intro w hSw; (try dsimp only at hSw); go_simp; try with_reducible rfl
  try simp only [Act.put, List.setIfInBounds_toArray, List.set_cons_zero, List.set_cons_succ]
  refine wpAnyH_done (by kernel_rfl) ?_ _
  refine NoPanic.normal ?_
  have hfin := Lib.hid hHeld.bel
  have HX := Lib.hid hown3
  clear hHeld hb hb2 hb3 hg3 hown hown2 hown3 hM4
  go_wp2
  go_ret
  exact ⟨_, rfl, HX.out, hfin.out⟩

set_option maxHeartbeats 2000000 in
set_option maxRecDepth 100000 in
theorem gro_right (v : Value) (ls : List (List UInt8)) (i : Nat) (b : Bool) (w : World) (D : Nat) (hD : w.cell? ⟨D, 0, none⟩ = some (fvG D)) (hv : HS w v ls) (h2 : 2 ≤ ls.length) (hml : i ≠ ls.length) (hik : ¬ i ≤ hlf ls.length) (h1 : 1 ≤ i) (hil : i ≤ ls.length) (hmax : ls.length ≤ 999)
    (IH : ∀ (v' : Value) (ls' : List (List UInt8)) (i' : Nat) (b' : Bool) (w' : World) (_ : w'.cell? ⟨D, 0, none⟩ = some (fvG D)), ls'.length < ls.length → 1 ≤ i' → i' ≤ ls'.length → HS w' v' ls' → Calls Try.prog 53 #[v', .int .i64 (i' : Int), .bool b', .pointer (some ⟨D, 0, none⟩)] w' fun e w'' => ∃ u, e = .returned u ∧ OHS w'' w'.heap.size u (growL ls' i' b') ∧ Below w'.heap.size w' w'') :
    Calls Try.prog 53 #[v, .int .i64 (i : Int), .bool b, .pointer (some ⟨D, 0, none⟩)] w fun e w' => ∃ u, e = .returned u ∧ OHS w' w.heap.size u (growL ls i b) ∧ Below w.heap.size w w' := by
  obtain ⟨C, c, rfl, hc, -⟩ := hv.form
  have hk := hlf_range ls.length h2
  have hh := fun w => half_any ls.length (by omega) w
  have hws := growL_size _ (ls.drop (hlf ls.length)) (i - hlf ls.length) false (Nat.le_refl _)
  rw [List.length_drop] at hws
  rw [growL_right ls i b h2 hml hik]
  obtain ⟨k, hke⟩ : ∃ k, hlf ls.length = k := ⟨_, rfl⟩
  rw [hke] at hk hik hws ⊢
  simp only [hke] at hh
  obtain ⟨j, hj⟩ : ∃ j, i - k = j := ⟨_, rfl⟩
  rw [hj] at hws ⊢
  have hjw : IntKind.i64.wrap ((i : Int) - (k : Int)) = (j : Int) := by rw [IntWalk.i64_in _ (by omega)]; omega
  obtain ⟨n, hn⟩ : ∃ n, ls.length = n := ⟨_, rfl⟩
  obtain ⟨A, hA⟩ : ∃ A, w.heap.size = A := ⟨_, rfl⟩
  have ka := fun w => sums_runh C n c k (by omega) (k : Int) rfl w
  have kb := fun w => sums_run1 C n c k (by omega) (k : Int) rfl (n - k) (c - k) rfl rfl w
  have qa : ∀ w', Below A w w' → Calls Try.prog 53 #[.slice (cutS C c k) (n - k) (c - k), .int .i64 (j : Int), .bool false, .pointer (some ⟨D, 0, none⟩)] w' fun e w'' => ∃ u, e = .returned u ∧ OHS w'' w'.heap.size u (growL (ls.drop k) j false) ∧ Below w'.heap.size w' w'' := fun w' hb' =>
    IH _ _ _ _ _ ((hb'.cell (p := ⟨D, 0, none⟩) (by rw [← hA]; exact World.block_lt_of_cell? w _ hD)).trans hD) (by rw [List.length_drop]; omega) (by omega) (by rw [List.length_drop]; omega) ((hv.below (by rw [hA]; exact hb')).drop k (n - k) (c - k) (by omega) (by omega) rfl)
  have qb : ∀ w', Below A w w' → Calls Try.prog 22 #[.slice C k c] w' fun e w'' => e = .returned (.agg (enc8 (rootL (ls.take k))).toArray) ∧ Below w'.heap.size w' w'' := fun w' hb' =>
    root_any (ls.length + 1) _ _ _ (by rw [List.length_take]; omega) ((hv.below (by rw [hA]; exact hb')).take k (by omega))
  have lb := rootL_length (ls.take k) (fun x hx => hv.all x (List.mem_of_mem_take hx))
  obtain ⟨rb, hrb⟩ : ∃ rb, rootL (ls.take k) = rb := ⟨_, rfl⟩
  rw [hrb] at lb
  simp only [hrb] at qb
  rw [hrb]
  obtain ⟨wy, hwy⟩ : ∃ wy, growL (ls.drop k) j false = wy := ⟨_, rfl⟩
  rw [hwy] at hws ⊢
  simp only [hwy] at qa
  obtain ⟨ab, hab⟩ : ∃ ab, enc8 rb = ab := ⟨_, rfl⟩
  simp only [hab] at qb
  have hn1 : ((i : Int) == (n : Int)) = false := by simp; omega
  have hn1' : i ≠ n := by omega
  have hd : decide ((i : Int) ≤ (k : Int)) = false := by simp; omega
  have hwl : wy.length + 1 ≤ 1000000 := by omega
  have ce : ∀ w', Mine A w w' → w'.cell? ⟨D, 0, none⟩ = some (fvG D) := fun w' hm => (hm.bel.cell (p := ⟨D, 0, none⟩) (by rw [← hA]; exact World.block_lt_of_cell? w _ hD)).trans hD
  have CE := Lib.hid ce
  rw [hn] at hh hv ⊢
  have QA := Lib.hid qa
  have QB := Lib.hid qb
  have HH := Lib.hid hh
  have LB := Lib.hid lb
  have HAB := Lib.hid hab
  have HWL := Lib.hid hwl
  have M0 : Hid (Mine A w w) := ⟨by omega, Below.refl _ _⟩
  clear IH hv qa qb hh h2 hk hc lb hrb hab hke hn hws hwy hwl hml h1 hil ce hD
  rw [hA]
  go_enter Try.func53, Try.ntmps53
  go_wp2_with fail
  refine (HH.out _).mono ?_
  rintro e w1 ⟨rfl, rfl⟩
  go_wp2_with fail
  refine wp_region_noPanic ?_
  refine wp_region_held_drew (S := (fun w' => Mine A w1 w')) (by kernel_rfl) ?_ (fun hHeld => ?_)
  · exact ⟨M0.out.le, M0.out.bel.drew⟩
  refine wpAnyH_take (i := 1) (oi := { dst := some 37, op := Op.move (Operand.tmp 0), type := 29, pos := "merkle.go:111", after := #[], guard := none }) (v := ?v1_29) rfl (by kernel_rfl) (by kernel_rfl) (by kernel_rfl) (fun _ _ _ h => h) (Or.inl ⟨by rfl, ?y1_29⟩) (by assumption) ?r1_29
  case y1_29 => intro w hSw; (try dsimp only at hSw); go_simp; try with_reducible rfl
  try simp only [Act.put, List.setIfInBounds_toArray, List.set_cons_zero, List.set_cons_succ]
  refine wpAnyH_take (i := 2) (oi := { dst := some 38, op := Op.move (Operand.tmp 8), type := 3, pos := "merkle.go:111", after := #[], guard := none }) (v := ?v2_30) rfl (by kernel_rfl) (by kernel_rfl) (by kernel_rfl) (fun _ _ _ h => h) (Or.inl ⟨by rfl, ?y2_30⟩) (by assumption) ?r2_30
  case y2_30 => intro w hSw; (try dsimp only at hSw); go_simp; try with_reducible rfl
  try simp only [Act.put, List.setIfInBounds_toArray, List.set_cons_zero, List.set_cons_succ]
  refine wpAnyH_take (i := 3) (oi := { dst := some 39, op := Op.slice 29 (Operand.tmp 37) (some (Operand.tmp 38)) none none, type := 29, pos := "merkle.go:111", after := #[{ on := 1, ground := Ground.data }, { on := 2, ground := Ground.data }], guard := none }) (v := ?v3_31) rfl (by kernel_rfl) (by kernel_rfl) (by kernel_rfl) (fun _ _ _ h => h) (Or.inl ⟨by rfl, ?y3_31⟩) (by assumption) ?r3_31
  case y3_31 => intro w hSw; (try dsimp only at hSw); go_simp; try with_reducible rfl
  try simp only [Act.put, List.setIfInBounds_toArray, List.set_cons_zero, List.set_cons_succ]
  refine wpAnyH_take (i := 4) (oi := { dst := some 40, op := Op.move (Operand.tmp 1), type := 3, pos := "merkle.go:111", after := #[], guard := none }) (v := ?v4_32) rfl (by kernel_rfl) (by kernel_rfl) (by kernel_rfl) (fun _ _ _ h => h) (Or.inl ⟨by rfl, ?y4_32⟩) (by assumption) ?r4_32
  case y4_32 => intro w hSw; (try dsimp only at hSw); go_simp; try with_reducible rfl
  try simp only [Act.put, List.setIfInBounds_toArray, List.set_cons_zero, List.set_cons_succ]
  refine wpAnyH_take (i := 5) (oi := { dst := some 41, op := Op.move (Operand.tmp 8), type := 3, pos := "merkle.go:111", after := #[], guard := none }) (v := ?v5_33) rfl (by kernel_rfl) (by kernel_rfl) (by kernel_rfl) (fun _ _ _ h => h) (Or.inl ⟨by rfl, ?y5_33⟩) (by assumption) ?r5_33
  case y5_33 => intro w hSw; (try dsimp only at hSw); go_simp; try with_reducible rfl
  try simp only [Act.put, List.setIfInBounds_toArray, List.set_cons_zero, List.set_cons_succ]
  refine wpAnyH_take (i := 6) (oi := { dst := some 42, op := Op.binOp BinOp.sub 3 (Operand.tmp 40) (Operand.tmp 41) 3, type := 3, pos := "merkle.go:111", after := #[{ on := 4, ground := Ground.data }, { on := 5, ground := Ground.data }], guard := none }) (v := ?v6_34) rfl (by kernel_rfl) (by kernel_rfl) (by kernel_rfl) (fun _ _ _ h => h) (Or.inl ⟨by rfl, ?y6_34⟩) (by assumption) ?r6_34
  case y6_34 => intro w hSw; (try dsimp only at hSw); go_simp; try with_reducible rfl
  try simp only [Act.put, List.setIfInBounds_toArray, List.set_cons_zero, List.set_cons_succ]
  refine wpAnyH_take (i := 8) (oi := { dst := some 44, op := Op.move (Operand.tmp 0), type := 29, pos := "merkle.go:111", after := #[], guard := none }) (v := ?v8_35) rfl (by kernel_rfl) (by kernel_rfl) (by kernel_rfl) (fun _ _ _ h => h) (Or.inl ⟨by rfl, ?y8_35⟩) (by assumption) ?r8_35
  case y8_35 => intro w hSw; (try dsimp only at hSw); go_simp; try with_reducible rfl
  try simp only [Act.put, List.setIfInBounds_toArray, List.set_cons_zero, List.set_cons_succ]
  refine wpAnyH_take (i := 9) (oi := { dst := some 45, op := Op.move (Operand.tmp 8), type := 3, pos := "merkle.go:111", after := #[], guard := none }) (v := ?v9_36) rfl (by kernel_rfl) (by kernel_rfl) (by kernel_rfl) (fun _ _ _ h => h) (Or.inl ⟨by rfl, ?y9_36⟩) (by assumption) ?r9_36
  case y9_36 => intro w hSw; (try dsimp only at hSw); go_simp; try with_reducible rfl
  try simp only [Act.put, List.setIfInBounds_toArray, List.set_cons_zero, List.set_cons_succ]
  refine wpAnyH_take (i := 10) (oi := { dst := some 46, op := Op.slice 29 (Operand.tmp 44) none (some (Operand.tmp 45)) none, type := 29, pos := "merkle.go:111", after := #[{ on := 8, ground := Ground.data }, { on := 9, ground := Ground.data }], guard := none }) (v := ?v10_37) rfl (by kernel_rfl) (by kernel_rfl) (by kernel_rfl) (fun _ _ _ h => h) (Or.inl ⟨by rfl, ?y10_37⟩) (by assumption) ?r10_37
  case y10_37 => intro w hSw; (try dsimp only at hSw); go_simp; try with_reducible rfl
  try simp only [Act.put, List.setIfInBounds_toArray, List.set_cons_zero, List.set_cons_succ]
  refine wpAnyH_take (i := 0) (oi := { dst := some 36, op := Op.load 79 (Operand.tmp 3), type := 79, pos := "merkle.go:111", after := #[], guard := none }) (v := ?v0_38) rfl (by kernel_rfl) (by kernel_rfl) (by kernel_rfl) (fun _ _ _ h => h) (Or.inl ⟨by rfl, ?y0_38⟩) (by assumption) ?r0_38
  case y0_38 => intro w hSw; (try dsimp only at hSw); have hc := CE.out _ hSw; unfold fvG at hc; go_simp; try with_reducible rfl
  try simp only [Act.put, List.setIfInBounds_toArray, List.set_cons_zero, List.set_cons_succ]
  refine wpAnyH_ready (rs := [7]) (by kernel_rfl) (by simp) (AllReadyH.cons (o := { dst := some 43, op := Op.call { callee := Callee.value (Operand.tmp 36), args := #[Operand.tmp 39, Operand.tmp 42, Operand.const (Value.bool false)], argTypes := #[29, 3, 4] }, type := 29, pos := "merkle.go:111", after := #[{ on := 0, ground := Ground.data }, { on := 3, ground := Ground.data }, { on := 6, ground := Ground.data }], guard := none }) rfl (fun K hK => ?_) AllReadyH.nil)
  go_simp
  have hM4 := hHeld; refine (QA.out _ hHeld.bel).mono ?_; rintro e w' ⟨u, rfl, hown, hb⟩
  go_wp2_with fail
  refine hK.out _ _ ?_ (fun hHeld => ?_)
  · (try dsimp only); (go_split_ands; (repeat' apply And.intro) <;> first | assumption | exact Mine.call (by assumption) (by assumption) | exact Mine.alloc (by assumption) _ | exact Mine.setCells (by assumption) _ _ _ (by omega) | exact Mine.callN (by assumption) (by assumption) (by omega) | exact Row.belowN (by assumption) (by assumption) (by omega) | exact there_belowN (by assumption) (by assumption) (by omega) | exact rangeAt_below (by assumption) (by assumption) | exact World.rangeAt_alloc (by assumption) _ | exact there_below (by assumption) (by assumption) | exact World.there_alloc (by assumption) _ | exact World.there_setCells (by assumption) _ _ _ | exact Row.belowS (by assumption) (by assumption) | exact Row.alloc (by assumption) _ | exact Row.setCells (by assumption) _ _ (by omega) | exact HS.below (by assumption) (by assumption) | exact HS.alloc (by assumption) _)
  clear hK K
  try simp only [Act.put, List.setIfInBounds_toArray, List.set_cons_zero, List.set_cons_succ]
  refine wpAnyH_ready (rs := [11]) (by kernel_rfl) (by simp) (AllReadyH.cons (o := { dst := some 47, op := Op.call { callee := Callee.value (Operand.func 22), args := #[Operand.tmp 46], argTypes := #[29] }, type := 24, pos := "merkle.go:111", after := #[{ on := 10, ground := Ground.data }, { on := 7, ground := Ground.chain }], guard := none }) rfl (fun K hK => ?_) AllReadyH.nil)
  go_simp
  refine (QB.out _ hHeld.bel).mono ?_; rintro e w2 ⟨rfl, hb2⟩; have hown2 := (hown.below hb2).mono hM4.le
  go_wp2_with fail
  refine hK.out _ _ ?_ (fun hHeld => ?_)
  · (try dsimp only); (go_split_ands; (repeat' apply And.intro) <;> first | assumption | exact Mine.call (by assumption) (by assumption) | exact Mine.alloc (by assumption) _ | exact Mine.setCells (by assumption) _ _ _ (by omega) | exact Mine.callN (by assumption) (by assumption) (by omega) | exact Row.belowN (by assumption) (by assumption) (by omega) | exact there_belowN (by assumption) (by assumption) (by omega) | exact rangeAt_below (by assumption) (by assumption) | exact World.rangeAt_alloc (by assumption) _ | exact there_below (by assumption) (by assumption) | exact World.there_alloc (by assumption) _ | exact World.there_setCells (by assumption) _ _ _ | exact Row.belowS (by assumption) (by assumption) | exact Row.alloc (by assumption) _ | exact Row.setCells (by assumption) _ _ (by omega) | exact HS.below (by assumption) (by assumption) | exact HS.alloc (by assumption) _)
  clear hK K
  try simp only [Act.put, List.setIfInBounds_toArray, List.set_cons_zero, List.set_cons_succ]
  refine wpAnyH_ready (rs := [12]) (by kernel_rfl) (by simp) (AllReadyH.cons (o := { dst := some 48, op := Op.buildSlice 29 1 #[(0, Operand.tmp 47)], type := 29, pos := "merkle.go:111", after := #[{ on := 11, ground := Ground.data }], guard := none }) rfl (fun K hK => ?_) AllReadyH.nil)
  refine stepS_build rfl 1 _ rfl [ab] (by simp [← HAB.out, enc8_len, LB.out]) rfl (by decide) (by decide) (by rw [Array.toList_map]; rfl) ?_; rw [show ([ab] : List (List Value)).flatMap id = ab by simp]
  refine hK.out _ _ ?_ (fun hHeld => ?_)
  · (try dsimp only); (go_split_ands; (repeat' apply And.intro) <;> first | assumption | exact Mine.call (by assumption) (by assumption) | exact Mine.alloc (by assumption) _ | exact Mine.setCells (by assumption) _ _ _ (by omega) | exact Mine.callN (by assumption) (by assumption) (by omega) | exact Row.belowN (by assumption) (by assumption) (by omega) | exact there_belowN (by assumption) (by assumption) (by omega) | exact rangeAt_below (by assumption) (by assumption) | exact World.rangeAt_alloc (by assumption) _ | exact there_below (by assumption) (by assumption) | exact World.there_alloc (by assumption) _ | exact World.there_setCells (by assumption) _ _ _ | exact Row.belowS (by assumption) (by assumption) | exact Row.alloc (by assumption) _ | exact Row.setCells (by assumption) _ _ (by omega) | exact HS.below (by assumption) (by assumption) | exact HS.alloc (by assumption) _)
  clear hK K
  try simp only [Act.put, List.setIfInBounds_toArray, List.set_cons_zero, List.set_cons_succ]
  refine wpAnyH_ready (rs := [13]) (by kernel_rfl) (by simp) (AllReadyH.cons (o := { dst := some 49, op := Op.call { callee := Callee.builtin Builtin.append, args := #[Operand.tmp 43, Operand.tmp 48], argTypes := #[29, 29] }, type := 29, pos := "merkle.go:111", after := #[{ on := 7, ground := Ground.data }, { on := 12, ground := Ground.data }, { on := 11, ground := Ground.chain }], guard := none }) rfl (fun K hK => ?_) AllReadyH.nil)
  refine stepS_append rfl (.tmp 43) (.tmp 48) rfl A u wy w2.heap.size 24 rb 1 rfl (hown2.alloc _) rfl (by rw [HAB.out]; exact Row.new w2 ab.toArray 24) LB.out HWL.out (by have := hHeld.le; exact this) ?_; intro v3 w3 hown3 hg3 hb3
  refine hK.out _ _ ?_ (fun hHeld => ?_)
  · (try dsimp only); (go_split_ands; (repeat' apply And.intro) <;> first | assumption | exact Mine.call (by assumption) (by assumption) | exact Mine.alloc (by assumption) _ | exact Mine.setCells (by assumption) _ _ _ (by omega) | exact Mine.callN (by assumption) (by assumption) (by omega) | exact Row.belowN (by assumption) (by assumption) (by omega) | exact there_belowN (by assumption) (by assumption) (by omega) | exact rangeAt_below (by assumption) (by assumption) | exact World.rangeAt_alloc (by assumption) _ | exact there_below (by assumption) (by assumption) | exact World.there_alloc (by assumption) _ | exact World.there_setCells (by assumption) _ _ _ | exact Row.belowS (by assumption) (by assumption) | exact Row.alloc (by assumption) _ | exact Row.setCells (by assumption) _ _ (by omega) | exact HS.below (by assumption) (by assumption) | exact HS.alloc (by assumption) _)
  clear hK K
  try simp only [Act.put, List.setIfInBounds_toArray, List.set_cons_zero, List.set_cons_succ]
  refine wpAnyH_take (i := 14) (oi := { dst := some 7, op := Op.assign (Operand.tmp 49), type := 29, pos := "merkle.go:111", after := #[{ on := 13, ground := Ground.data }, { on := 13, ground := Ground.chain }, { on := 0, ground := Ground.phase }, { on := 1, ground := Ground.phase }, { on := 2, ground := Ground.phase }, { on := 3, ground := Ground.phase }, { on := 4, ground := Ground.phase }, { on := 5, ground := Ground.phase }, { on := 6, ground := Ground.phase }, { on := 7, ground := Ground.phase }, { on := 8, ground := Ground.phase }, { on := 9, ground := Ground.phase }, { on := 10, ground := Ground.phase }, { on := 11, ground := Ground.phase }, { on := 12, ground := Ground.phase }, { on := 13, ground := Ground.phase }], guard := none }) (v := ?v14_39) rfl (by kernel_rfl) (by kernel_rfl) (by kernel_rfl) (fun _ _ _ h => h) (Or.inl ⟨by rfl, ?y14_39⟩) (by assumption) ?r14_39
  case y14_39 => intro w hSw; (try dsimp only at hSw); go_simp; try with_reducible rfl
  try simp only [Act.put, List.setIfInBounds_toArray, List.set_cons_zero, List.set_cons_succ]
  refine wpAnyH_done (by kernel_rfl) ?_ _
  refine NoPanic.normal ?_
  have hfin := Lib.hid hHeld.bel
  have HX := Lib.hid hown3
  clear hHeld hb hb2 hb3 hg3 hown hown2 hown3 hM4
  go_wp2
  go_ret
  exact ⟨_, rfl, HX.out, hfin.out⟩

theorem gro_any : ∀ (N : Nat) (v : Value) (ls : List (List UInt8)) (i : Nat) (b : Bool) (w : World) (D : Nat) (hD : w.cell? ⟨D, 0, none⟩ = some (fvG D)), ls.length < N → ls.length ≤ 999 → 1 ≤ i → i ≤ ls.length → HS w v ls →
    Calls Try.prog 53 #[v, .int .i64 (i : Int), .bool b, .pointer (some ⟨D, 0, none⟩)] w fun e w' => ∃ u, e = .returned u ∧ OHS w' w.heap.size u (growL ls i b) ∧ Below w.heap.size w w'
  | 0, _, _, _, _, _, _, _, h, _, _, _, _ => absurd h (Nat.not_lt_zero _)
  | N + 1, v, ls, i, b, w, D, hD, h, hm, h1, hi, hv => by
    by_cases he : i = ls.length
    · subst he
      exact gro_base v ls b w D hD hv hm
    · by_cases hik : i ≤ hlf ls.length
      · exact gro_left v ls i b w D hD hv (by omega) he hik h1 hi hm fun v' ls' i' b' w' hD' hlt h1' hi' hv' => gro_any N v' ls' i' b' w' D hD' (by omega) (by omega) h1' hi' hv'
      · exact gro_right v ls i b w D hD hv (by omega) he hik h1 hi hm fun v' ls' i' b' w' hD' hlt h1' hi' hv' => gro_any N v' ls' i' b' w' D hD' (by omega) (by omega) h1' hi' hv'
end Go.Proofs.Ytkipnhhdlohnfaa

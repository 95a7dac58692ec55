/- The way of a leaf: the reference. -/
import Derived.RangeFuncNested
import Derived.RangeFuncBound
import Derived.RangeFuncCalls
import Derived.RangeFuncLeaves
import Derived.Shelf.Abstract
import Derived.Shelf.RegionOpen
import Derived.WalkKit
import Derived.OwnWalkIn
import Derived.TacticsInMore
import Derived.LoopNIn
import Derived.LoopIn
import Derived.Outline
import Derived.Lib.Hide
import Derived.Lib.SliceRun
import Derived.IntWalk
import Derived.WalkLawsBesides
import Derived.WalkSpells
import Derived.Laws.BitsAllLaws
import Derived.Lib.ConvBytes
import Derived.Maps.AppendAt
import Derived.Lib.AppendStr
import Derived.Lib.SlBytesConst
import Derived.Laws.AppendOwnNone
import Derived.Laws.OwnMore
import Derived.Laws.BytesArg
import Derived.Deep.RegionHeld3
import Derived.BigQuiet
import Derived.Deep.RegionLaw
import Derived.Deep.QuietTactic
import Derived.Lib.OthersKept
import Derived.Test.YtkipnhhdlohnfaaProg
import Derived.Deep.DeepFit
import Derived.Great.BuildSlice
import Derived.Test.YtkipnhhdlohnfaaMkD
set_option linter.unusedVariables false
set_option linter.unusedSimpArgs false
namespace Go.Proofs.Ytkipnhhdlohnfaa
open Go Go.RowKit Go.Shelf

/-- the way of a leaf, from the bottom up -/
def wayL (ls : List (List UInt8)) (i : Nat) : List (List UInt8) :=
  if h : 2 ≤ ls.length then
    if i < hlf ls.length then wayL (ls.take (hlf ls.length)) i ++ [rootL (ls.drop (hlf ls.length))]
    else wayL (ls.drop (hlf ls.length)) (i - hlf ls.length) ++ [rootL (ls.take (hlf ls.length))]
  else []
termination_by ls.length
decreasing_by
  · have := hlf_range ls.length h; rw [List.length_take]; omega
  · have := hlf_range ls.length h; rw [List.length_drop]; omega
theorem wayL_one (ls : List (List UInt8)) (i : Nat) (h : ¬ 2 ≤ ls.length) : wayL ls i = [] := by rw [wayL, dif_neg h]
theorem wayL_left (ls : List (List UInt8)) (i : Nat) (h : 2 ≤ ls.length) (hi : i < hlf ls.length) : wayL ls i = wayL (ls.take (hlf ls.length)) i ++ [rootL (ls.drop (hlf ls.length))] := by rw [wayL, dif_pos h, if_pos hi]
theorem wayL_right (ls : List (List UInt8)) (i : Nat) (h : 2 ≤ ls.length) (hi : ¬ i < hlf ls.length) : wayL ls i = wayL (ls.drop (hlf ls.length)) (i - hlf ls.length) ++ [rootL (ls.take (hlf ls.length))] := by rw [wayL, dif_pos h, if_neg hi]
theorem wayL_size : ∀ (N : Nat) (ls : List (List UInt8)) (i : Nat), ls.length ≤ N → (wayL ls i).length ≤ ls.length
  | 0, ls, i, h => by rw [wayL_one ls i (by omega)]; simp
  | N + 1, ls, i, h => by
    by_cases h2 : 2 ≤ ls.length
    · have hk := hlf_range ls.length h2
      by_cases hi : i < hlf ls.length
      · rw [wayL_left ls i h2 hi, List.length_append]
        have := wayL_size N (ls.take (hlf ls.length)) i (by rw [List.length_take]; omega)
        rw [List.length_take] at this
        simp only [List.length_singleton]; omega
      · rw [wayL_right ls i h2 hi, List.length_append]
        have := wayL_size N (ls.drop (hlf ls.length)) (i - hlf ls.length) (by rw [List.length_drop]; omega)
        rw [List.length_drop] at this
        simp only [List.length_singleton]; omega
    · rw [wayL_one ls i h2]; simp

theorem OHS.alloc {W : World} {B : Nat} {v : Value} {l : List (List UInt8)} (h : OHS W B v l) (o : Obj) : OHS (W.alloc o) B v l := h.below ((Below.refl _ W).alloc (Nat.le_refl _) o)
theorem fill_sums (vs : List (List Value)) (h : ∀ v ∈ vs, v.length = 32) (n : Nat) (hn : n = vs.length) (z : Array Value) : Instr.fill (fun i => some (i * 32, 32)) ((Array.range (n * 32)).map (z[· % z.size]!)) (((vs.map fun v => Value.agg v.toArray).zipIdx 0).map fun x => (x.2, x.1)) = some (vs.flatMap id).toArray := by
  subst hn
  rw [Great.fill_whole (s := 32) (by omega) _ _ (by intro v hv; obtain ⟨x, hx, rfl⟩ := List.mem_map.1 hv; simpa [Value.cells] using h x hx) (by simp)]
  congr 2
  rw [List.flatMap_map]
  simp [Value.cells]
theorem wp_build_sums {o : Oper} {a : Act} {w : World} {K : Act → World → Prop} {Q : Exit → Act → World → Prop} (n : Nat) (parts : Array (Nat × Operand)) (ho : o.op = .buildSlice 29 n parts)
    (vs : List (List Value)) (h : ∀ v ∈ vs, v.length = 32) (hn : n = vs.length) (h0 : 0 < n) (h1 : n ≤ 1000)
    (hp : (parts.map fun (i, x) => (i, a.eval x)).toList = ((vs.map fun v => Value.agg v.toArray).zipIdx 0).map fun x => (x.2, x.1))
    (hk : K (a.put o.dst (.slice (some ⟨w.heap.size, 0, none⟩) n n)) (w.alloc (.cells (vs.flatMap id).toArray 24))) : o.wp Try.prog a w K Q := by
  obtain ⟨i0, hi, hz0, hz1, hz2⟩ := info_parts infoS
  refine wp_buildSlice 29 24 n parts ho _ i0 _ Try.underlying29 hi hz0 (by rw [hz1]; omega) (by rw [hz1]; omega) ?_ hk
  rw [hp, hz1]
  exact fill_sums vs h n hn _
/-- a slice literal of sums, inside a region that draws its order -/
theorem stepS_build {w : World} {ops : Array Oper} {o : Oper} {a : Act} {K : Act → World → Prop} {Q : Exit → Act → World → Prop} {E : Prop} (hw : Region.wanted o (yielded ops a.tmps) = true) (n : Nat) (parts : Array (Nat × Operand)) (ho : o.op = .buildSlice 29 n parts)
    (vs : List (List Value)) (h : ∀ v ∈ vs, v.length = 32) (hn : n = vs.length) (h0 : 0 < n) (h1 : n ≤ 1000)
    (hp : (parts.map fun (i, x) => (i, a.eval x)).toList = ((vs.map fun v => Value.agg v.toArray).zipIdx 0).map fun x => (x.2, x.1))
    (hk : K (a.put o.dst (.slice (some ⟨w.heap.size, 0, none⟩) n n)) (w.alloc (.cells (vs.flatMap id).toArray 24))) : if Region.wanted o (yielded ops a.tmps) = true then Oper.wp Try.prog o a w K Q else E := by
  rw [if_pos hw]
  exact wp_build_sums n parts ho vs h hn h0 h1 hp hk
theorem wpS_build {w : World} {ops : Array Oper} {rest : List Oper} {o : Oper} {a : Act} {Q : Exit → Act → World → Prop} (hw : Region.wanted o (yielded ops a.tmps) = true) (n : Nat) (parts : Array (Nat × Operand)) (ho : o.op = .buildSlice 29 n parts)
    (vs : List (List Value)) (h : ∀ v ∈ vs, v.length = 32) (hn : n = vs.length) (h0 : 0 < n) (h1 : n ≤ 1000)
    (hp : (parts.map fun (i, x) => (i, a.eval x)).toList = ((vs.map fun v => Value.agg v.toArray).zipIdx 0).map fun x => (x.2, x.1))
    (hk : wpList Try.prog ops Q rest (a.put o.dst (.slice (some ⟨w.heap.size, 0, none⟩) n n)) (w.alloc (.cells (vs.flatMap id).toArray 24))) : wpList Try.prog ops Q (o :: rest) a w :=
  wpList_wanted hw fun K hK => wp_build_sums n parts ho vs h hn h0 h1 hp (hK _ _ hk)
/-- append(own, one sum), inside a region that draws its order -/
theorem stepS_append {w : World} {ops : Array Oper} {o : Oper} {a : Act} {K : Act → World → Prop} {Q : Exit → Act → World → Prop} {E : Prop} (hgd : o.guard = none) (s x : Operand)
    (ho : o.op = .call { callee := .builtin .append, args := #[s, x], argTypes := #[29, 29] })
    (base : Nat) (v : Value) (ls : List (List UInt8)) (g : Nat) (t : TypeId) (y : List UInt8) (c : Nat) (hs : a.eval s = v) (hown : OHS w base v ls) (hx : a.eval x = .slice (some ⟨g, 0, none⟩) 1 c) (hr : Row w g t (enc8 y)) (hy : y.length = 32) (hlen : ls.length + 1 ≤ 1000000) (hbase : base ≤ w.heap.size)
    (h : ∀ v' w', OHS w' base v' (ls ++ [y]) → w.grownBy w' v.ownBlock → Below base w w' → K (a.put o.dst v') w') : if Region.wanted o (yielded ops a.tmps) = true then Oper.wp Try.prog o a w K Q else E := by
  have hw : Region.wanted o (yielded ops a.tmps) = true := by simp [Region.wanted, hgd]
  rw [if_pos hw]
  obtain ⟨v', w', hrun, h1, h2, h3⟩ := runS_append o.type base v ls ⟨g, 0, none⟩ c y hown hy (fun j u hj => by
    have : (⟨g, 0, none⟩ : Addr).add j = ⟨g, j, none⟩ := by unfold Addr.add; split <;> simp_all
    rw [this, hr.cell j]; exact hj) hlen hbase
  unfold Oper.wp
  simp [execOp, ho, resolve, invoke, builtin, hs, hx, hrun, Result.andThen]
  exact h v' w' h1 h2 h3

set_option maxHeartbeats 2000000 in
set_option maxRecDepth 100000 in
theorem qway_left (v : Value) (ls : List (List UInt8)) (i : Nat) (w : World) (hv : HS w v ls) (h2 : 2 ≤ ls.length) (hik : i < hlf ls.length) (hmax : ls.length ≤ 1000)
    (IH : ∀ (v' : Value) (ls' : List (List UInt8)) (i' : Nat) (w' : World), ls'.length < ls.length → i' < ls'.length → HS w' v' ls' → Calls Try.prog 48 #[v', .int .i64 (i' : Int)] w' fun e w'' => ∃ u, e = .returned u ∧ OHS w'' w'.heap.size u (wayL ls' i') ∧ Below w'.heap.size w' w'') :
    Calls Try.prog 48 #[v, .int .i64 (i : Int)] w fun e w' => ∃ u, e = .returned u ∧ OHS w' w.heap.size u (wayL ls i) ∧ Below w.heap.size w w' := by
  obtain ⟨C, c, rfl, hc, -⟩ := hv.form
  have hk := hlf_range ls.length h2
  have hh := fun w => split_any ls.length (by omega) w
  have hws := wayL_size _ (ls.take (hlf ls.length)) i (Nat.le_refl _)
  rw [List.length_take] at hws
  rw [wayL_left ls i h2 hik]
  obtain ⟨k, hke⟩ : ∃ k, hlf ls.length = k := ⟨_, rfl⟩
  rw [hke] at hk hik hws ⊢
  simp only [hke] at hh
  obtain ⟨n, hn⟩ : ∃ n, ls.length = n := ⟨_, rfl⟩
  obtain ⟨A, hA⟩ : ∃ A, w.heap.size = A := ⟨_, rfl⟩
  have ka := fun w => sums_runh C n c k (by omega) (k : Int) rfl w
  have kb := fun w => sums_run1 C n c k (by omega) (k : Int) rfl (n - k) (c - k) rfl rfl w
  have qa : ∀ w', Below A w w' → Calls Try.prog 48 #[.slice C k c, .int .i64 (i : Int)] w' fun e w'' => ∃ u, e = .returned u ∧ OHS w'' w'.heap.size u (wayL (ls.take k) i) ∧ Below w'.heap.size w' w'' := fun w' hb' =>
    IH _ _ _ _ (by rw [List.length_take]; omega) (by rw [List.length_take]; omega) ((hv.below (by rw [hA]; exact hb')).take k (by omega))
  have qb : ∀ w', Below A w w' → Calls Try.prog 23 #[.slice (cutS C c k) (n - k) (c - k)] w' fun e w'' => e = .returned (.agg (enc8 (rootL (ls.drop k))).toArray) ∧ Below w'.heap.size w' w'' := fun w' hb' =>
    qroot_any (ls.length + 1) _ _ _ (by rw [List.length_drop]; omega) ((hv.below (by rw [hA]; exact hb')).drop k (n - k) (c - k) (by omega) (by omega) rfl)
  have lb := rootL_length (ls.drop k) (fun x hx => hv.all x (List.mem_of_mem_drop hx))
  obtain ⟨rb, hrb⟩ : ∃ rb, rootL (ls.drop k) = rb := ⟨_, rfl⟩
  rw [hrb] at lb
  simp only [hrb] at qb
  rw [hrb]
  obtain ⟨wy, hwy⟩ : ∃ wy, wayL (ls.take k) i = wy := ⟨_, rfl⟩
  rw [hwy] at hws ⊢
  simp only [hwy] at qa
  obtain ⟨ab, hab⟩ : ∃ ab, enc8 rb = ab := ⟨_, rfl⟩
  simp only [hab] at qb
  have hn1 : (n : Int) ≠ 1 := by omega
  have hn1' : n ≠ 1 := by omega
  have hd : decide ((i : Int) < (k : Int)) = true := by simp; omega
  have hwl : wy.length + 1 ≤ 1000000 := by omega
  rw [hn] at hh hv ⊢
  have QA := Lib.hid qa
  have QB := Lib.hid qb
  have HH := Lib.hid hh
  have LB := Lib.hid lb
  have HAB := Lib.hid hab
  have HWL := Lib.hid hwl
  have M0 : Hid (Mine A w w) := ⟨by omega, Below.refl _ _⟩
  clear IH hv qa qb hh h2 hk hc lb hrb hab hke hn hws hwy hwl
  rw [hA]
  go_enter Try.func48, Try.ntmps48
  go_wp2_with fail
  refine (HH.out _).mono ?_
  rintro e w1 ⟨rfl, rfl⟩
  go_wp2_with fail
  refine wp_region_noPanic ?_
  refine wp_region_held_drew (S := (fun w' => Mine A w1 w')) (by kernel_rfl) ?_ (fun hHeld => ?_)
  · exact ⟨M0.out.le, M0.out.bel.drew⟩
  refine wpAnyH_take (i := 0) (oi := { dst := some 15, op := Op.move (Operand.tmp 0), type := 29, pos := "ref.go:56", after := #[], guard := none }) (v := ?v0) rfl (by kernel_rfl) (by kernel_rfl) (by kernel_rfl) (fun _ _ _ h => h) (Or.inl ⟨by rfl, ?y0⟩) (by assumption) ?r0
  case y0 => intro w hSw; (try dsimp only at hSw); go_simp; try with_reducible rfl
  try simp only [Act.put, List.setIfInBounds_toArray, List.set_cons_zero, List.set_cons_succ]
  refine wpAnyH_take (i := 1) (oi := { dst := some 16, op := Op.move (Operand.tmp 5), type := 3, pos := "ref.go:56", after := #[], guard := none }) (v := ?v1) rfl (by kernel_rfl) (by kernel_rfl) (by kernel_rfl) (fun _ _ _ h => h) (Or.inl ⟨by rfl, ?y1⟩) (by assumption) ?r1
  case y1 => intro w hSw; (try dsimp only at hSw); go_simp; try with_reducible rfl
  try simp only [Act.put, List.setIfInBounds_toArray, List.set_cons_zero, List.set_cons_succ]
  refine wpAnyH_take (i := 2) (oi := { dst := some 17, op := Op.slice 29 (Operand.tmp 15) none (some (Operand.tmp 16)) none, type := 29, pos := "ref.go:56", after := #[{ on := 0, ground := Ground.data }, { on := 1, ground := Ground.data }], guard := none }) (v := ?v2) rfl (by kernel_rfl) (by kernel_rfl) (by kernel_rfl) (fun _ _ _ h => h) (Or.inl ⟨by rfl, ?y2⟩) (by assumption) ?r2
  case y2 => intro w hSw; (try dsimp only at hSw); go_simp; try with_reducible rfl
  try simp only [Act.put, List.setIfInBounds_toArray, List.set_cons_zero, List.set_cons_succ]
  refine wpAnyH_take (i := 3) (oi := { dst := some 18, op := Op.move (Operand.tmp 1), type := 3, pos := "ref.go:56", after := #[], guard := none }) (v := ?v3) rfl (by kernel_rfl) (by kernel_rfl) (by kernel_rfl) (fun _ _ _ h => h) (Or.inl ⟨by rfl, ?y3⟩) (by assumption) ?r3
  case y3 => intro w hSw; (try dsimp only at hSw); go_simp; try with_reducible rfl
  try simp only [Act.put, List.setIfInBounds_toArray, List.set_cons_zero, List.set_cons_succ]
  refine wpAnyH_take (i := 5) (oi := { dst := some 20, op := Op.move (Operand.tmp 0), type := 29, pos := "ref.go:56", after := #[], guard := none }) (v := ?v5) rfl (by kernel_rfl) (by kernel_rfl) (by kernel_rfl) (fun _ _ _ h => h) (Or.inl ⟨by rfl, ?y5⟩) (by assumption) ?r5
  case y5 => intro w hSw; (try dsimp only at hSw); go_simp; try with_reducible rfl
  try simp only [Act.put, List.setIfInBounds_toArray, List.set_cons_zero, List.set_cons_succ]
  refine wpAnyH_take (i := 6) (oi := { dst := some 21, op := Op.move (Operand.tmp 5), type := 3, pos := "ref.go:56", after := #[], guard := none }) (v := ?v6) rfl (by kernel_rfl) (by kernel_rfl) (by kernel_rfl) (fun _ _ _ h => h) (Or.inl ⟨by rfl, ?y6⟩) (by assumption) ?r6
  case y6 => intro w hSw; (try dsimp only at hSw); go_simp; try with_reducible rfl
  try simp only [Act.put, List.setIfInBounds_toArray, List.set_cons_zero, List.set_cons_succ]
  refine wpAnyH_take (i := 7) (oi := { dst := some 22, op := Op.slice 29 (Operand.tmp 20) (some (Operand.tmp 21)) none none, type := 29, pos := "ref.go:56", after := #[{ on := 5, ground := Ground.data }, { on := 6, ground := Ground.data }], guard := none }) (v := ?v7) rfl (by kernel_rfl) (by kernel_rfl) (by kernel_rfl) (fun _ _ _ h => h) (Or.inl ⟨by rfl, ?y7⟩) (by assumption) ?r7
  case y7 => intro w hSw; (try dsimp only at hSw); go_simp; try with_reducible rfl
  try simp only [Act.put, List.setIfInBounds_toArray, List.set_cons_zero, List.set_cons_succ]
  refine wpAnyH_ready (rs := [4]) (by kernel_rfl) (by simp) (AllReadyH.cons (o := { dst := some 19, op := Op.call { callee := Callee.value (Operand.func 48), args := #[Operand.tmp 17, Operand.tmp 18], argTypes := #[29, 3] }, type := 29, pos := "ref.go:56", after := #[{ on := 2, ground := Ground.data }, { on := 3, ground := Ground.data }], guard := none }) rfl (fun K hK => ?_) AllReadyH.nil)
  go_simp
  have hM4 := hHeld; refine (QA.out _ hHeld.bel).mono ?_; rintro e w' ⟨u, rfl, hown, hb⟩
  go_wp2_with fail
  refine hK.out _ _ ?_ (fun hHeld => ?_)
  · (try dsimp only); (go_split_ands; (repeat' apply And.intro) <;> first | assumption | exact Mine.call (by assumption) (by assumption) | exact Mine.alloc (by assumption) _ | exact Mine.setCells (by assumption) _ _ _ (by omega) | exact Mine.callN (by assumption) (by assumption) (by omega) | exact Row.belowN (by assumption) (by assumption) (by omega) | exact there_belowN (by assumption) (by assumption) (by omega) | exact rangeAt_below (by assumption) (by assumption) | exact World.rangeAt_alloc (by assumption) _ | exact there_below (by assumption) (by assumption) | exact World.there_alloc (by assumption) _ | exact World.there_setCells (by assumption) _ _ _ | exact Row.belowS (by assumption) (by assumption) | exact Row.alloc (by assumption) _ | exact Row.setCells (by assumption) _ _ (by omega) | exact HS.below (by assumption) (by assumption) | exact HS.alloc (by assumption) _)
  clear hK K
  try simp only [Act.put, List.setIfInBounds_toArray, List.set_cons_zero, List.set_cons_succ]
  refine wpAnyH_ready (rs := [8]) (by kernel_rfl) (by simp) (AllReadyH.cons (o := { dst := some 23, op := Op.call { callee := Callee.value (Operand.func 23), args := #[Operand.tmp 22], argTypes := #[29] }, type := 24, pos := "ref.go:56", after := #[{ on := 7, ground := Ground.data }, { on := 4, ground := Ground.chain }], guard := none }) rfl (fun K hK => ?_) AllReadyH.nil)
  go_simp
  refine (QB.out _ hHeld.bel).mono ?_; rintro e w2 ⟨rfl, hb2⟩; have hown2 := (hown.below hb2).mono hM4.le
  go_wp2_with fail
  refine hK.out _ _ ?_ (fun hHeld => ?_)
  · (try dsimp only); (go_split_ands; (repeat' apply And.intro) <;> first | assumption | exact Mine.call (by assumption) (by assumption) | exact Mine.alloc (by assumption) _ | exact Mine.setCells (by assumption) _ _ _ (by omega) | exact Mine.callN (by assumption) (by assumption) (by omega) | exact Row.belowN (by assumption) (by assumption) (by omega) | exact there_belowN (by assumption) (by assumption) (by omega) | exact rangeAt_below (by assumption) (by assumption) | exact World.rangeAt_alloc (by assumption) _ | exact there_below (by assumption) (by assumption) | exact World.there_alloc (by assumption) _ | exact World.there_setCells (by assumption) _ _ _ | exact Row.belowS (by assumption) (by assumption) | exact Row.alloc (by assumption) _ | exact Row.setCells (by assumption) _ _ (by omega) | exact HS.below (by assumption) (by assumption) | exact HS.alloc (by assumption) _)
  clear hK K
  try simp only [Act.put, List.setIfInBounds_toArray, List.set_cons_zero, List.set_cons_succ]
  refine wpAnyH_ready (rs := [9]) (by kernel_rfl) (by simp) (AllReadyH.cons (o := { dst := some 24, op := Op.buildSlice 29 1 #[(0, Operand.tmp 23)], type := 29, pos := "ref.go:56", after := #[{ on := 8, ground := Ground.data }], guard := none }) rfl (fun K hK => ?_) AllReadyH.nil)
  refine stepS_build rfl 1 _ rfl [ab] (by simp [← HAB.out, enc8_len, LB.out]) rfl (by decide) (by decide) (by rw [Array.toList_map]; rfl) ?_; rw [show ([ab] : List (List Value)).flatMap id = ab by simp]
  refine hK.out _ _ ?_ (fun hHeld => ?_)
  · (try dsimp only); (go_split_ands; (repeat' apply And.intro) <;> first | assumption | exact Mine.call (by assumption) (by assumption) | exact Mine.alloc (by assumption) _ | exact Mine.setCells (by assumption) _ _ _ (by omega) | exact Mine.callN (by assumption) (by assumption) (by omega) | exact Row.belowN (by assumption) (by assumption) (by omega) | exact there_belowN (by assumption) (by assumption) (by omega) | exact rangeAt_below (by assumption) (by assumption) | exact World.rangeAt_alloc (by assumption) _ | exact there_below (by assumption) (by assumption) | exact World.there_alloc (by assumption) _ | exact World.there_setCells (by assumption) _ _ _ | exact Row.belowS (by assumption) (by assumption) | exact Row.alloc (by assumption) _ | exact Row.setCells (by assumption) _ _ (by omega) | exact HS.below (by assumption) (by assumption) | exact HS.alloc (by assumption) _)
  clear hK K
  try simp only [Act.put, List.setIfInBounds_toArray, List.set_cons_zero, List.set_cons_succ]
  refine wpAnyH_ready (rs := [10]) (by kernel_rfl) (by simp) (AllReadyH.cons (o := { dst := some 25, op := Op.call { callee := Callee.builtin Builtin.append, args := #[Operand.tmp 19, Operand.tmp 24], argTypes := #[29, 29] }, type := 29, pos := "ref.go:56", after := #[{ on := 4, ground := Ground.data }, { on := 9, ground := Ground.data }, { on := 8, ground := Ground.chain }], guard := none }) rfl (fun K hK => ?_) AllReadyH.nil)
  refine stepS_append rfl (.tmp 19) (.tmp 24) rfl A u wy w2.heap.size 24 rb 1 rfl (hown2.alloc _) rfl (by rw [HAB.out]; exact Row.new w2 ab.toArray 24) LB.out HWL.out (by have := hHeld.le; exact this) ?_; intro v3 w3 hown3 hg3 hb3
  refine hK.out _ _ ?_ (fun hHeld => ?_)
  · (try dsimp only); (go_split_ands; (repeat' apply And.intro) <;> first | assumption | exact Mine.call (by assumption) (by assumption) | exact Mine.alloc (by assumption) _ | exact Mine.setCells (by assumption) _ _ _ (by omega) | exact Mine.callN (by assumption) (by assumption) (by omega) | exact Row.belowN (by assumption) (by assumption) (by omega) | exact there_belowN (by assumption) (by assumption) (by omega) | exact rangeAt_below (by assumption) (by assumption) | exact World.rangeAt_alloc (by assumption) _ | exact there_below (by assumption) (by assumption) | exact World.there_alloc (by assumption) _ | exact World.there_setCells (by assumption) _ _ _ | exact Row.belowS (by assumption) (by assumption) | exact Row.alloc (by assumption) _ | exact Row.setCells (by assumption) _ _ (by omega) | exact HS.below (by assumption) (by assumption) | exact HS.alloc (by assumption) _)
  clear hK K
  try simp only [Act.put, List.setIfInBounds_toArray, List.set_cons_zero, List.set_cons_succ]
  refine wpAnyH_take (i := 11) (oi := { dst := some 4, op := Op.assign (Operand.tmp 25), type := 29, pos := "ref.go:56", after := #[{ on := 10, ground := Ground.data }, { on := 10, ground := Ground.chain }, { on := 0, ground := Ground.phase }, { on := 1, ground := Ground.phase }, { on := 2, ground := Ground.phase }, { on := 3, ground := Ground.phase }, { on := 4, ground := Ground.phase }, { on := 5, ground := Ground.phase }, { on := 6, ground := Ground.phase }, { on := 7, ground := Ground.phase }, { on := 8, ground := Ground.phase }, { on := 9, ground := Ground.phase }, { on := 10, ground := Ground.phase }], guard := none }) (v := ?v11) rfl (by kernel_rfl) (by kernel_rfl) (by kernel_rfl) (fun _ _ _ h => h) (Or.inl ⟨by rfl, ?y11⟩) (by assumption) ?r11
  case y11 => intro w hSw; (try dsimp only at hSw); go_simp; try with_reducible rfl
  try simp only [Act.put, List.setIfInBounds_toArray, List.set_cons_zero, List.set_cons_succ]
  refine wpAnyH_done (by kernel_rfl) ?_ _
  refine NoPanic.normal ?_
  have hfin := Lib.hid hHeld.bel
  have HX := Lib.hid hown3
  clear hHeld hb hb2 hb3 hg3 hown hown2 hown3 hM4
  go_wp2
  go_ret
  exact ⟨_, rfl, HX.out, hfin.out⟩
set_option maxHeartbeats 2000000 in
set_option maxRecDepth 100000 in
theorem qway_right (v : Value) (ls : List (List UInt8)) (i : Nat) (w : World) (hv : HS w v ls) (h2 : 2 ≤ ls.length) (hik : ¬ i < hlf ls.length) (hil : i < ls.length) (hmax : ls.length ≤ 1000)
    (IH : ∀ (v' : Value) (ls' : List (List UInt8)) (i' : Nat) (w' : World), ls'.length < ls.length → i' < ls'.length → HS w' v' ls' → Calls Try.prog 48 #[v', .int .i64 (i' : Int)] w' fun e w'' => ∃ u, e = .returned u ∧ OHS w'' w'.heap.size u (wayL ls' i') ∧ Below w'.heap.size w' w'') :
    Calls Try.prog 48 #[v, .int .i64 (i : Int)] w fun e w' => ∃ u, e = .returned u ∧ OHS w' w.heap.size u (wayL ls i) ∧ Below w.heap.size w w' := by
  obtain ⟨C, c, rfl, hc, -⟩ := hv.form
  have hk := hlf_range ls.length h2
  have hh := fun w => split_any ls.length (by omega) w
  have hws := wayL_size _ (ls.drop (hlf ls.length)) (i - hlf ls.length) (Nat.le_refl _)
  rw [List.length_drop] at hws
  rw [wayL_right ls i h2 hik]
  obtain ⟨k, hke⟩ : ∃ k, hlf ls.length = k := ⟨_, rfl⟩
  rw [hke] at hk hik hws ⊢
  obtain ⟨j, hj⟩ : ∃ j, i - k = j := ⟨_, rfl⟩
  rw [hj] at hws ⊢
  have hjw : IntKind.i64.wrap ((i : Int) - (k : Int)) = (j : Int) := by rw [IntWalk.i64_in _ (by omega)]; omega
  simp only [hke] at hh
  obtain ⟨n, hn⟩ : ∃ n, ls.length = n := ⟨_, rfl⟩
  obtain ⟨A, hA⟩ : ∃ A, w.heap.size = A := ⟨_, rfl⟩
  have ka := fun w => sums_runh C n c k (by omega) (k : Int) rfl w
  have kb := fun w => sums_run1 C n c k (by omega) (k : Int) rfl (n - k) (c - k) rfl rfl w
  have qa : ∀ w', Below A w w' → Calls Try.prog 48 #[.slice (cutS C c k) (n - k) (c - k), .int .i64 (j : Int)] w' fun e w'' => ∃ u, e = .returned u ∧ OHS w'' w'.heap.size u (wayL (ls.drop k) j) ∧ Below w'.heap.size w' w'' := fun w' hb' =>
    IH _ _ _ _ (by rw [List.length_drop]; omega) (by rw [List.length_drop]; omega) ((hv.below (by rw [hA]; exact hb')).drop k (n - k) (c - k) (by omega) (by omega) rfl)
  have qb : ∀ w', Below A w w' → Calls Try.prog 23 #[.slice C k c] w' fun e w'' => e = .returned (.agg (enc8 (rootL (ls.take k))).toArray) ∧ Below w'.heap.size w' w'' := fun w' hb' =>
    qroot_any (ls.length + 1) _ _ _ (by rw [List.length_take]; omega) ((hv.below (by rw [hA]; exact hb')).take k (by omega))
  have lb := rootL_length (ls.take k) (fun x hx => hv.all x (List.mem_of_mem_take hx))
  obtain ⟨rb, hrb⟩ : ∃ rb, rootL (ls.take k) = rb := ⟨_, rfl⟩
  rw [hrb] at lb
  simp only [hrb] at qb
  rw [hrb]
  obtain ⟨wy, hwy⟩ : ∃ wy, wayL (ls.drop k) j = wy := ⟨_, rfl⟩
  rw [hwy] at hws ⊢
  simp only [hwy] at qa
  obtain ⟨ab, hab⟩ : ∃ ab, enc8 rb = ab := ⟨_, rfl⟩
  simp only [hab] at qb
  have hn1 : (n : Int) ≠ 1 := by omega
  have hn1' : n ≠ 1 := by omega
  have hd : decide ((i : Int) < (k : Int)) = false := by simp; omega
  have hwl : wy.length + 1 ≤ 1000000 := by omega
  rw [hn] at hh hv ⊢
  have QA := Lib.hid qa
  have QB := Lib.hid qb
  have HH := Lib.hid hh
  have LB := Lib.hid lb
  have HAB := Lib.hid hab
  have HWL := Lib.hid hwl
  have M0 : Hid (Mine A w w) := ⟨by omega, Below.refl _ _⟩
  clear IH hv qa qb hh h2 hk hc lb hrb hab hke hn hws hwy hwl hj hil
  rw [hA]
  go_enter Try.func48, Try.ntmps48
  go_wp2_with fail
  refine (HH.out _).mono ?_
  rintro e w1 ⟨rfl, rfl⟩
  go_wp2_with fail
  refine wp_region_noPanic ?_
  refine wp_region_held_drew (S := (fun w' => Mine A w1 w')) (by kernel_rfl) ?_ (fun hHeld => ?_)
  · exact ⟨M0.out.le, M0.out.bel.drew⟩
  refine wpAnyH_take (i := 0) (oi := { dst := some 26, op := Op.move (Operand.tmp 0), type := 29, pos := "ref.go:58", after := #[], guard := none }) (v := ?v0) rfl (by kernel_rfl) (by kernel_rfl) (by kernel_rfl) (fun _ _ _ h => h) (Or.inl ⟨by rfl, ?y0⟩) (by assumption) ?r0
  case y0 => intro w hSw; (try dsimp only at hSw); go_simp; try with_reducible rfl
  try simp only [Act.put, List.setIfInBounds_toArray, List.set_cons_zero, List.set_cons_succ]
  refine wpAnyH_take (i := 1) (oi := { dst := some 27, op := Op.move (Operand.tmp 5), type := 3, pos := "ref.go:58", after := #[], guard := none }) (v := ?v1) rfl (by kernel_rfl) (by kernel_rfl) (by kernel_rfl) (fun _ _ _ h => h) (Or.inl ⟨by rfl, ?y1⟩) (by assumption) ?r1
  case y1 => intro w hSw; (try dsimp only at hSw); go_simp; try with_reducible rfl
  try simp only [Act.put, List.setIfInBounds_toArray, List.set_cons_zero, List.set_cons_succ]
  refine wpAnyH_take (i := 2) (oi := { dst := some 28, op := Op.slice 29 (Operand.tmp 26) (some (Operand.tmp 27)) none none, type := 29, pos := "ref.go:58", after := #[{ on := 0, ground := Ground.data }, { on := 1, ground := Ground.data }], guard := none }) (v := ?v2) rfl (by kernel_rfl) (by kernel_rfl) (by kernel_rfl) (fun _ _ _ h => h) (Or.inl ⟨by rfl, ?y2⟩) (by assumption) ?r2
  case y2 => intro w hSw; (try dsimp only at hSw); go_simp; try with_reducible rfl
  try simp only [Act.put, List.setIfInBounds_toArray, List.set_cons_zero, List.set_cons_succ]
  refine wpAnyH_take (i := 3) (oi := { dst := some 29, op := Op.move (Operand.tmp 1), type := 3, pos := "ref.go:58", after := #[], guard := none }) (v := ?v3) rfl (by kernel_rfl) (by kernel_rfl) (by kernel_rfl) (fun _ _ _ h => h) (Or.inl ⟨by rfl, ?y3⟩) (by assumption) ?r3
  case y3 => intro w hSw; (try dsimp only at hSw); go_simp; try with_reducible rfl
  try simp only [Act.put, List.setIfInBounds_toArray, List.set_cons_zero, List.set_cons_succ]
  refine wpAnyH_take (i := 4) (oi := { dst := some 30, op := Op.move (Operand.tmp 5), type := 3, pos := "ref.go:58", after := #[], guard := none }) (v := ?v4) rfl (by kernel_rfl) (by kernel_rfl) (by kernel_rfl) (fun _ _ _ h => h) (Or.inl ⟨by rfl, ?y4⟩) (by assumption) ?r4
  case y4 => intro w hSw; (try dsimp only at hSw); go_simp; try with_reducible rfl
  try simp only [Act.put, List.setIfInBounds_toArray, List.set_cons_zero, List.set_cons_succ]
  refine wpAnyH_take (i := 5) (oi := { dst := some 31, op := Op.binOp BinOp.sub 3 (Operand.tmp 29) (Operand.tmp 30) 3, type := 3, pos := "ref.go:58", after := #[{ on := 3, ground := Ground.data }, { on := 4, ground := Ground.data }], guard := none }) (v := ?v5) rfl (by kernel_rfl) (by kernel_rfl) (by kernel_rfl) (fun _ _ _ h => h) (Or.inl ⟨by rfl, ?y5⟩) (by assumption) ?r5
  case y5 => intro w hSw; (try dsimp only at hSw); go_simp; try with_reducible rfl
  try simp only [Act.put, List.setIfInBounds_toArray, List.set_cons_zero, List.set_cons_succ]
  refine wpAnyH_take (i := 7) (oi := { dst := some 33, op := Op.move (Operand.tmp 0), type := 29, pos := "ref.go:58", after := #[], guard := none }) (v := ?v7) rfl (by kernel_rfl) (by kernel_rfl) (by kernel_rfl) (fun _ _ _ h => h) (Or.inl ⟨by rfl, ?y7⟩) (by assumption) ?r7
  case y7 => intro w hSw; (try dsimp only at hSw); go_simp; try with_reducible rfl
  try simp only [Act.put, List.setIfInBounds_toArray, List.set_cons_zero, List.set_cons_succ]
  refine wpAnyH_take (i := 8) (oi := { dst := some 34, op := Op.move (Operand.tmp 5), type := 3, pos := "ref.go:58", after := #[], guard := none }) (v := ?v8) rfl (by kernel_rfl) (by kernel_rfl) (by kernel_rfl) (fun _ _ _ h => h) (Or.inl ⟨by rfl, ?y8⟩) (by assumption) ?r8
  case y8 => intro w hSw; (try dsimp only at hSw); go_simp; try with_reducible rfl
  try simp only [Act.put, List.setIfInBounds_toArray, List.set_cons_zero, List.set_cons_succ]
  refine wpAnyH_take (i := 9) (oi := { dst := some 35, op := Op.slice 29 (Operand.tmp 33) none (some (Operand.tmp 34)) none, type := 29, pos := "ref.go:58", after := #[{ on := 7, ground := Ground.data }, { on := 8, ground := Ground.data }], guard := none }) (v := ?v9) rfl (by kernel_rfl) (by kernel_rfl) (by kernel_rfl) (fun _ _ _ h => h) (Or.inl ⟨by rfl, ?y9⟩) (by assumption) ?r9
  case y9 => intro w hSw; (try dsimp only at hSw); go_simp; try with_reducible rfl
  try simp only [Act.put, List.setIfInBounds_toArray, List.set_cons_zero, List.set_cons_succ]
  refine wpAnyH_ready (rs := [6]) (by kernel_rfl) (by simp) (AllReadyH.cons (o := { dst := some 32, op := Op.call { callee := Callee.value (Operand.func 48), args := #[Operand.tmp 28, Operand.tmp 31], argTypes := #[29, 3] }, type := 29, pos := "ref.go:58", after := #[{ on := 2, ground := Ground.data }, { on := 5, ground := Ground.data }], guard := none }) rfl (fun K hK => ?_) AllReadyH.nil)
  go_simp
  have hM4 := hHeld; refine (QA.out _ hHeld.bel).mono ?_; rintro e w' ⟨u, rfl, hown, hb⟩
  go_wp2_with fail
  refine hK.out _ _ ?_ (fun hHeld => ?_)
  · (try dsimp only); (go_split_ands; (repeat' apply And.intro) <;> first | assumption | exact Mine.call (by assumption) (by assumption) | exact Mine.alloc (by assumption) _ | exact Mine.setCells (by assumption) _ _ _ (by omega) | exact Mine.callN (by assumption) (by assumption) (by omega) | exact Row.belowN (by assumption) (by assumption) (by omega) | exact there_belowN (by assumption) (by assumption) (by omega) | exact rangeAt_below (by assumption) (by assumption) | exact World.rangeAt_alloc (by assumption) _ | exact there_below (by assumption) (by assumption) | exact World.there_alloc (by assumption) _ | exact World.there_setCells (by assumption) _ _ _ | exact Row.belowS (by assumption) (by assumption) | exact Row.alloc (by assumption) _ | exact Row.setCells (by assumption) _ _ (by omega) | exact HS.below (by assumption) (by assumption) | exact HS.alloc (by assumption) _)
  clear hK K
  try simp only [Act.put, List.setIfInBounds_toArray, List.set_cons_zero, List.set_cons_succ]
  refine wpAnyH_ready (rs := [10]) (by kernel_rfl) (by simp) (AllReadyH.cons (o := { dst := some 36, op := Op.call { callee := Callee.value (Operand.func 23), args := #[Operand.tmp 35], argTypes := #[29] }, type := 24, pos := "ref.go:58", after := #[{ on := 9, ground := Ground.data }, { on := 6, ground := Ground.chain }], guard := none }) rfl (fun K hK => ?_) AllReadyH.nil)
  go_simp
  refine (QB.out _ hHeld.bel).mono ?_; rintro e w2 ⟨rfl, hb2⟩; have hown2 := (hown.below hb2).mono hM4.le
  go_wp2_with fail
  refine hK.out _ _ ?_ (fun hHeld => ?_)
  · (try dsimp only); (go_split_ands; (repeat' apply And.intro) <;> first | assumption | exact Mine.call (by assumption) (by assumption) | exact Mine.alloc (by assumption) _ | exact Mine.setCells (by assumption) _ _ _ (by omega) | exact Mine.callN (by assumption) (by assumption) (by omega) | exact Row.belowN (by assumption) (by assumption) (by omega) | exact there_belowN (by assumption) (by assumption) (by omega) | exact rangeAt_below (by assumption) (by assumption) | exact World.rangeAt_alloc (by assumption) _ | exact there_below (by assumption) (by assumption) | exact World.there_alloc (by assumption) _ | exact World.there_setCells (by assumption) _ _ _ | exact Row.belowS (by assumption) (by assumption) | exact Row.alloc (by assumption) _ | exact Row.setCells (by assumption) _ _ (by omega) | exact HS.below (by assumption) (by assumption) | exact HS.alloc (by assumption) _)
  clear hK K
  try simp only [Act.put, List.setIfInBounds_toArray, List.set_cons_zero, List.set_cons_succ]
  refine wpAnyH_ready (rs := [11]) (by kernel_rfl) (by simp) (AllReadyH.cons (o := { dst := some 37, op := Op.buildSlice 29 1 #[(0, Operand.tmp 36)], type := 29, pos := "ref.go:58", after := #[{ on := 10, ground := Ground.data }], guard := none }) rfl (fun K hK => ?_) AllReadyH.nil)
  refine stepS_build rfl 1 _ rfl [ab] (by simp [← HAB.out, enc8_len, LB.out]) rfl (by decide) (by decide) (by rw [Array.toList_map]; rfl) ?_; rw [show ([ab] : List (List Value)).flatMap id = ab by simp]
  refine hK.out _ _ ?_ (fun hHeld => ?_)
  · (try dsimp only); (go_split_ands; (repeat' apply And.intro) <;> first | assumption | exact Mine.call (by assumption) (by assumption) | exact Mine.alloc (by assumption) _ | exact Mine.setCells (by assumption) _ _ _ (by omega) | exact Mine.callN (by assumption) (by assumption) (by omega) | exact Row.belowN (by assumption) (by assumption) (by omega) | exact there_belowN (by assumption) (by assumption) (by omega) | exact rangeAt_below (by assumption) (by assumption) | exact World.rangeAt_alloc (by assumption) _ | exact there_below (by assumption) (by assumption) | exact World.there_alloc (by assumption) _ | exact World.there_setCells (by assumption) _ _ _ | exact Row.belowS (by assumption) (by assumption) | exact Row.alloc (by assumption) _ | exact Row.setCells (by assumption) _ _ (by omega) | exact HS.below (by assumption) (by assumption) | exact HS.alloc (by assumption) _)
  clear hK K
  try simp only [Act.put, List.setIfInBounds_toArray, List.set_cons_zero, List.set_cons_succ]
  refine wpAnyH_ready (rs := [12]) (by kernel_rfl) (by simp) (AllReadyH.cons (o := { dst := some 38, op := Op.call { callee := Callee.builtin Builtin.append, args := #[Operand.tmp 32, Operand.tmp 37], argTypes := #[29, 29] }, type := 29, pos := "ref.go:58", after := #[{ on := 6, ground := Ground.data }, { on := 11, ground := Ground.data }, { on := 10, ground := Ground.chain }], guard := none }) rfl (fun K hK => ?_) AllReadyH.nil)
  refine stepS_append rfl (.tmp 32) (.tmp 37) rfl A u wy w2.heap.size 24 rb 1 rfl (hown2.alloc _) rfl (by rw [HAB.out]; exact Row.new w2 ab.toArray 24) LB.out HWL.out (by have := hHeld.le; exact this) ?_; intro v3 w3 hown3 hg3 hb3
  refine hK.out _ _ ?_ (fun hHeld => ?_)
  · (try dsimp only); (go_split_ands; (repeat' apply And.intro) <;> first | assumption | exact Mine.call (by assumption) (by assumption) | exact Mine.alloc (by assumption) _ | exact Mine.setCells (by assumption) _ _ _ (by omega) | exact Mine.callN (by assumption) (by assumption) (by omega) | exact Row.belowN (by assumption) (by assumption) (by omega) | exact there_belowN (by assumption) (by assumption) (by omega) | exact rangeAt_below (by assumption) (by assumption) | exact World.rangeAt_alloc (by assumption) _ | exact there_below (by assumption) (by assumption) | exact World.there_alloc (by assumption) _ | exact World.there_setCells (by assumption) _ _ _ | exact Row.belowS (by assumption) (by assumption) | exact Row.alloc (by assumption) _ | exact Row.setCells (by assumption) _ _ (by omega) | exact HS.below (by assumption) (by assumption) | exact HS.alloc (by assumption) _)
  clear hK K
  try simp only [Act.put, List.setIfInBounds_toArray, List.set_cons_zero, List.set_cons_succ]
  refine wpAnyH_take (i := 13) (oi := { dst := some 4, op := Op.assign (Operand.tmp 38), type := 29, pos := "ref.go:58", after := #[{ on := 12, ground := Ground.data }, { on := 12, ground := Ground.chain }, { on := 0, ground := Ground.phase }, { on := 1, ground := Ground.phase }, { on := 2, ground := Ground.phase }, { on := 3, ground := Ground.phase }, { on := 4, ground := Ground.phase }, { on := 5, ground := Ground.phase }, { on := 6, ground := Ground.phase }, { on := 7, ground := Ground.phase }, { on := 8, ground := Ground.phase }, { on := 9, ground := Ground.phase }, { on := 10, ground := Ground.phase }, { on := 11, ground := Ground.phase }, { on := 12, ground := Ground.phase }], guard := none }) (v := ?v13) rfl (by kernel_rfl) (by kernel_rfl) (by kernel_rfl) (fun _ _ _ h => h) (Or.inl ⟨by rfl, ?y13⟩) (by assumption) ?r13
  case y13 => intro w hSw; (try dsimp only at hSw); go_simp; try with_reducible rfl
  try simp only [Act.put, List.setIfInBounds_toArray, List.set_cons_zero, List.set_cons_succ]
  refine wpAnyH_done (by kernel_rfl) ?_ _
  refine NoPanic.normal ?_
  have hfin := Lib.hid hHeld.bel
  have HX := Lib.hid hown3
  clear hHeld hb hb2 hb3 hg3 hown hown2 hown3 hM4
  go_wp2
  go_ret
  exact ⟨_, rfl, HX.out, hfin.out⟩

set_option maxRecDepth 100000 in
theorem qway_one (v : Value) (ls : List (List UInt8)) (i : Nat) (w : World) (hv : HS w v ls) (h1 : ls.length = 1) :
    Calls Try.prog 48 #[v, .int .i64 (i : Int)] w fun e w' => ∃ u, e = .returned u ∧ OHS w' w.heap.size u (wayL ls i) ∧ Below w.heap.size w w' := by
  obtain ⟨C, c, rfl, -⟩ := hv.form
  rw [wayL_one ls i (by omega), h1]
  clear hv h1
  go_enter Try.func48, Try.ntmps48
  go_wp2
  go_ret
  exact ⟨_, rfl, OHS_nil _ _, Below.refl _ _⟩
/-- **the reference's way** -/
theorem qway_any : ∀ (N : Nat) (v : Value) (ls : List (List UInt8)) (i : Nat) (w : World), ls.length < N → ls.length ≤ 1000 → i < ls.length → HS w v ls →
    Calls Try.prog 48 #[v, .int .i64 (i : Int)] w fun e w' => ∃ u, e = .returned u ∧ OHS w' w.heap.size u (wayL ls i) ∧ Below w.heap.size w w'
  | 0, _, _, _, _, h, _, _, _ => absurd h (Nat.not_lt_zero _)
  | N + 1, v, ls, i, w, h, hm, hi, hv => by
    by_cases h2 : 2 ≤ ls.length
    · by_cases hik : i < hlf ls.length
      · exact qway_left v ls i w hv h2 hik hm fun v' ls' i' w' hlt hi' hv' => qway_any N v' ls' i' w' (by omega) (by omega) hi' hv'
      · exact qway_right v ls i w hv h2 hik hi hm fun v' ls' i' w' hlt hi' hv' => qway_any N v' ls' i' w' (by omega) (by omega) hi' hv'
    · exact qway_one v ls i w hv (by omega)
end Go.Proofs.Ytkipnhhdlohnfaa

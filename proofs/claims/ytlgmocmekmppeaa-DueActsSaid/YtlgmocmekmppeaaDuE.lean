/- What is due: popped. -/
import Derived.RangeFuncNested
import Derived.RangeFuncBound
import Derived.RangeFuncCalls
import Derived.RangeFuncLeaves
import Derived.Shelf.Abstract
import Derived.Shelf.RegionOpen
import Derived.WalkKit
import Derived.OwnWalkIn
import Derived.TacticsInMore
import Derived.LoopNIn
import Derived.LoopIn
import Derived.Outline
import Derived.Lib.Hide
import Derived.Lib.SliceRun
import Derived.IntWalk
import Derived.WalkLawsBesides
import Derived.WalkSpells
import Derived.Laws.BitsAllLaws
import Derived.Lib.ConvBytes
import Derived.Maps.AppendAt
import Derived.Lib.AppendStr
import Derived.Lib.SlBytesConst
import Derived.Laws.AppendOwnNone
import Derived.Laws.OwnMore
import Derived.Laws.BytesArg
import Derived.Deep.RegionHeld3
import Derived.BigQuiet
import Derived.Deep.RegionLaw
import Derived.Deep.QuietTactic
import Derived.Test.YtlgmocmekmppeaaProg
import Derived.Test.YtlgmocmekmppeaaDuD
set_option linter.unusedVariables false
set_option linter.unusedSimpArgs false
namespace Go.Proofs.Ytlgmocmekmppeaa
open Go Go.RowKit Go.Shelf

theorem grownBy_setAny (W : World) (b i : Nat) (v : Value) : W.grownBy (W.setCell ⟨b, i, none⟩ v) (some b) :=
  ⟨rfl, rfl, rfl, (KeepsWalks.setCell W _ v).size, fun k _ hk => Below.heap_setCell _ _ _ k (fun e => hk (by rw [e]))⟩
theorem KeepOn.setAny {n₀ : Nat} {D : Nat → Prop} (w : World) (b i : Nat) (v : Value) (hb : n₀ ≤ b) (hd : ¬ D b) : KeepOn n₀ D w (w.setCell ⟨b, i, none⟩ v) :=
  .of_grown (grownBy_setAny w b i v) (fun k e => by cases e; exact ⟨hb, hd⟩)
/-- a new block, protected -/
theorem HS.guard {w : World} {base B : Nat} {D : Nat → Prop} {xs : List Item} (h : HS w base B D xs) (o : Obj) : HS (w.alloc o) base B (fun b => D b ∨ b = w.heap.size) xs := by
  have hs : (w.alloc o).heap.size = w.heap.size + 1 := by show (w.heap.push o).size = _; simp
  obtain ⟨v, hb, hr, hv, hB, hD⟩ := h
  refine ⟨v, hb.alloc _, World.ownsRow.alloc hr _, fun r k => ?_, fun k => ?_, fun b k => ?_⟩
  · rintro (hd | rfl)
    · exact hv r k hd
    · exact Nat.lt_irrefl _ (hr.lt _ k).2
  · rcases k with hd | rfl
    · exact hB hd
    · exact Nat.lt_irrefl _ hb.lt
  · rcases k with hd | rfl
    · have := hD b hd; omega
    · omega
theorem HS.weak {w : World} {base B : Nat} {D D' : Nat → Prop} {xs : List Item} (h : HS w base B D' xs) (hd : ∀ b, D b → D' b) : HS w base B D xs := by
  obtain ⟨v, hb, hr, hv, hB, hD⟩ := h
  exact ⟨v, hb, hr, fun r k h => hv r k (hd r h), fun k => hB (hd _ k), fun b k => hD b (hd b k)⟩
theorem HS.setAt {w : World} {base B k : Nat} {D : Nat → Prop} {xs : List Item} (h : HS w base B D xs) (hk : D k) (i : Nat) (v : Value) : HS (w.setCell ⟨k, i, none⟩ v) base B D xs := by
  obtain ⟨u, hb, hr, hv, hB, hD⟩ := h
  have hg := grownBy_setAny w k i v
  exact ⟨u, hb.kept hg (fun e => by cases e; exact hB hk), World.ownsRow.kept hr hg (.inr (fun e => hv k e hk)), hv, hB, fun b k => Nat.lt_of_lt_of_le (hD b k) hg.size⟩

/-- nothing is handed back -/
abbrev ret0 : Value := .tuple #[.agg #[.int .i64 0, .int .i64 0], .bool false]
set_option maxRecDepth 100000 in
set_option maxHeartbeats 1000000 in
theorem dpop_nil (base : Nat) (D : Nat → Prop) (n : Int) (w : World) :
    Calls Try.prog 29 #[.pointer none, .int .i64 n] w fun e w' => e = .returned ret0 ∧ KeepOn base D w w' := by
  go_enter Try.func29, Try.ntmps29
  go_wp2_with fail
  refine (dnext_nil _).mono ?_
  rintro e w1 ⟨rfl, rfl⟩
  go_wp2
  refine bodyPost_ret (v := ret0) (by simp [results, Try.results29, go_sem]) rfl ?_
  exact ⟨rfl, KeepOn.alloc base D w _⟩
set_option maxRecDepth 100000 in
set_option maxHeartbeats 1000000 in
theorem dpop_none (base B : Nat) (n : Int) (w : World) (D : Nat → Prop) (h : HS w base B D []) :
    Calls Try.prog 29 #[dp B, .int .i64 n] w fun e w' => e = .returned ret0 ∧ HS w' base B D [] ∧ KeepOn base D w w' := by
  have H := Lib.hid (h.alloc (.cells #[.int .i64 0, .int .i64 0] 50))
  clear h
  go_enter Try.func29, Try.ntmps29
  go_wp2_with fail
  refine (dnext_none base B _ D H.out).mono ?_
  rintro e w1 ⟨rfl, rfl⟩
  go_wp2
  refine bodyPost_ret (v := ret0) (by simp [results, Try.results29, go_sem]) rfl ?_
  exact ⟨rfl, H.out, KeepOn.alloc base D w _⟩
set_option maxRecDepth 100000 in
set_option maxHeartbeats 1000000 in
theorem dpop_late (base B : Nat) (n : Int) (z : Item) (zs : List Item) (hz : n < z.1) (hmax : zs.length ≤ 90000) (w : World) (D : Nat → Prop) (h : HS w base B D (z :: zs)) :
    Calls Try.prog 29 #[dp B, .int .i64 n] w fun e w' => e = .returned ret0 ∧ HS w' base B D (z :: zs) ∧ KeepOn base D w w' := by
  have H := Lib.hid (h.alloc (.cells #[.int .i64 0, .int .i64 0] 50))
  clear h
  obtain ⟨z1, hz1⟩ : ∃ z1, z.1 = z1 := ⟨_, rfl⟩
  rw [hz1] at hz
  have Hz1 := Lib.hid hz1
  clear hz1
  go_enter Try.func29, Try.ntmps29
  go_wp2_with fail
  refine (dnext_some base B z zs _ (by omega) D H.out).mono ?_
  rintro e w1 ⟨rfl, rfl⟩
  rw [Hz1.out]
  go_wp2
  refine bodyPost_ret (v := ret0) (by simp [results, Try.results29, go_sem]) rfl ?_
  exact ⟨rfl, H.out, KeepOn.alloc base D w _⟩
set_option maxRecDepth 100000 in
set_option maxHeartbeats 1000000 in
theorem dpop_due (base B : Nat) (n : Int) (z x : Item) (zs ys : List Item) (hz : z.1 ≤ n) (hmax : zs.length ≤ 90000) (hp : popL (z :: zs) = ys ++ [x]) (hB : base ≤ B) (w : World) (D : Nat → Prop) (h : HS w base B D (z :: zs)) :
    Calls Try.prog 29 #[dp B, .int .i64 n] w fun e w' => e = .returned (.tuple #[.agg #[.int .i64 x.1, .int .i64 x.2], .bool true]) ∧ HS w' base B D ys ∧ KeepOn base D w w' := by
  have H := Lib.hid (h.guard (.cells #[.int .i64 0, .int .i64 0] 50))
  have hBlt := h.lt
  have hD : ¬ D w.heap.size := by obtain ⟨_, _, _, _, _, hd⟩ := h; intro hh; exact Nat.lt_irrefl _ (hd _ hh)
  have HD := Lib.hid hD
  have hbw : base ≤ w.heap.size := by omega
  have Hbw := Lib.hid hbw
  clear h hD hbw
  have Hp := Lib.hid hp
  clear hp
  obtain ⟨z1, hz1⟩ : ∃ z1, z.1 = z1 := ⟨_, rfl⟩
  rw [hz1] at hz
  have Hz1 := Lib.hid hz1
  clear hz1
  have hta := ta50 x.1 x.2
  have hk0 := KeepOn.alloc base D w (.cells #[.int .i64 0, .int .i64 0] 50)
  obtain ⟨k, hk⟩ : ∃ k, k = w.heap.size := ⟨_, rfl⟩
  have c0 : (w.alloc (.cells #[.int .i64 0, .int .i64 0] 50)).heap[k]? = some (.cells #[.int .i64 0, .int .i64 0] 50) := by rw [hk]; exact heap_alloc_new w _
  have C0 := Lib.hid c0
  have Hk0 := Lib.hid hk0
  clear c0 hk0
  go_enter Try.func29, Try.ntmps29
  go_wp2_with fail
  refine (dnext_some base B z zs _ (by omega) _ H.out).mono ?_
  rintro e w1 ⟨rfl, hw1⟩
  rw [Hz1.out]
  go_wp2_with fail
  have Hw1 := Lib.hid hw1
  have h1 : HS w1 base B (fun b => D b ∨ b = w.heap.size) (z :: zs) := by rw [← hw1]; exact H.out
  have H1 := Lib.hid h1
  have hs1 : w1.heap.size = w.heap.size + 1 := by rw [← hw1]; show (w.heap.push _).size = _; simp
  clear hw1 h1
  refine (hpop_any base B (z :: zs) ys x w1 _ H1.out (by simp) (by simp; omega) hB Hp.out).mono ?_
  rintro e w2 ⟨rfl, hs2, hk2⟩
  have hb2 : w2.heap[w.heap.size]? = some (.cells #[.int .i64 0, .int .i64 0] 50) := by
    rw [hk2.block w.heap.size (by omega) (.inr (.inr rfl)), ← Hw1.out]; exact heap_alloc_new w _
  have q0 : w2.cell? ⟨w.heap.size, 0, none⟩ = some (.int .i64 0) := by simp [World.cell?, hb2]
  have q1 : w2.cell? ⟨w.heap.size, 1, none⟩ = some (.int .i64 0) := by simp [World.cell?, hb2]
  have q2 : w2.frozen? ⟨w.heap.size, 0, none⟩ = false := by simp [World.frozen?, hb2]
  have q3 : w2.frozen? ⟨w.heap.size, 1, none⟩ = false := by simp [World.frozen?, hb2]
  have Hs2 := Lib.hid hs2
  have Hk2 := Lib.hid hk2
  clear hs2 hk2 hb2
  unfold itV
  go_wp2
  refine bodyPost_ret (v := .tuple #[.agg #[.int .i64 x.1, .int .i64 x.2], .bool true]) (by simp [results, Try.results29, go_sem, q0, q1]) rfl ?_
  have hkk := ((Hk0.out.trans (Hw1.out ▸ KeepOn.refl base D _)).trans (Hk2.out.weak (fun _ _ h => .inl h))).trans ((KeepOn.setAny w2 w.heap.size 0 (.int .i64 x.1) Hbw.out HD.out).trans (KeepOn.setAny _ w.heap.size 1 (.int .i64 x.2) Hbw.out HD.out))
  exact ⟨rfl, ((Hs2.out.setAt (.inr rfl) 0 _).setAt (.inr rfl) 1 _).weak (fun _ h => .inl h), hkk⟩
end Go.Proofs.Ytlgmocmekmppeaa

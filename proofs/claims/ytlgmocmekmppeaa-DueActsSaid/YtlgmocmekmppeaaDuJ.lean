/- What is popped comes in order. -/
import Derived.RangeFuncNested
import Derived.RangeFuncBound
import Derived.RangeFuncCalls
import Derived.RangeFuncLeaves
import Derived.Shelf.Abstract
import Derived.Shelf.RegionOpen
import Derived.WalkKit
import Derived.OwnWalkIn
import Derived.TacticsInMore
import Derived.LoopNIn
import Derived.LoopIn
import Derived.Outline
import Derived.Lib.Hide
import Derived.Lib.SliceRun
import Derived.IntWalk
import Derived.WalkLawsBesides
import Derived.WalkSpells
import Derived.Laws.BitsAllLaws
import Derived.Lib.ConvBytes
import Derived.Maps.AppendAt
import Derived.Lib.AppendStr
import Derived.Lib.SlBytesConst
import Derived.Laws.AppendOwnNone
import Derived.Laws.OwnMore
import Derived.Laws.BytesArg
import Derived.Deep.RegionHeld3
import Derived.BigQuiet
import Derived.Deep.RegionLaw
import Derived.Deep.QuietTactic
import Derived.Test.YtlgmocmekmppeaaProg
import Derived.Test.YtlgmocmekmppeaaDuH
import Derived.Test.YtlgmocmekmppeaaDuMath
import Derived.Test.YtlgmocmekmppeaaDuOpen
set_option linter.unusedVariables false
set_option linter.unusedSimpArgs false
namespace Go.Proofs.Ytlgmocmekmppeaa
open Go Go.RowKit Go.Shelf

theorem IV.form {W : World} {v : Value} {xs : List Item} (h : IV W v xs) : ∃ A c, v = .slice A xs.length c ∧ xs.length ≤ c ∧ c ≤ 9223372036854775807 ∧
    ∀ i, i < xs.length → ∃ b off, A = some ⟨b, off, none⟩ ∧ W.cell? ⟨b, off + i * 2, none⟩ = some (.int .i64 (itA xs i)) ∧ W.cell? ⟨b, off + i * 2 + 1, none⟩ = some (.int .i64 (itB xs i)) ∧ in64 (itA xs i) ∧ in64 (itB xs i) := by
  rcases h with ⟨rfl, rfl⟩ | ⟨a, c, rfl, ⟨h1, h2⟩, h⟩
  · exact ⟨none, 0, rfl, by simp, by simp, fun i hi => by simp at hi⟩
  · refine ⟨some a, c, rfl, h1, h2, fun i hi => ?_⟩
    obtain ⟨b, off, rfl, hc⟩ := h (by omega)
    exact ⟨b, off, rfl, hc i hi⟩
/-- a list of the heap's own order that holds these items -/
def Holds (L xs : List Item) : Prop := Heap L.length L ∧ L.Perm xs
theorem KeepOn.cell {n₀ : Nat} {D : Nat → Prop} {w w' : World} (h : KeepOn n₀ D w w') {b o : Nat} {v : Value} (hb : b < n₀ ∨ D b) (hc : w.cell? ⟨b, o, none⟩ = some v) : w'.cell? ⟨b, o, none⟩ = some v := by
  have hlt := World.block_lt_of_cell? w _ hc
  have := h.block b hlt hb
  simp only [World.cell?] at hc ⊢
  rw [this]; exact hc
theorem KeepOn.frz {n₀ : Nat} {D : Nat → Prop} {w w' : World} (h : KeepOn n₀ D w w') {b o : Nat} (hlt : b < w.heap.size) (hb : b < n₀ ∨ D b) : w'.frozen? ⟨b, o, none⟩ = w.frozen? ⟨b, o, none⟩ := by
  have := h.block b hlt hb
  simp only [World.frozen?]
  rw [this]

theorem pair_set (w : World) (G : Nat) (a b : Int) (u v : Value) (o : Obj) (q0 : w.cell? ⟨G, 0, none⟩ = some u) (q1 : w.cell? ⟨G, 1, none⟩ = some v) (q2 : w.frozen? ⟨G, 0, none⟩ = false) (q3 : w.frozen? ⟨G, 1, none⟩ = false) :
    (((w.setCell ⟨G, 0, none⟩ (.int .i64 a)).setCell ⟨G, 1, none⟩ (.int .i64 b)).alloc o).cell? ⟨G, 0, none⟩ = some (.int .i64 a) ∧ (((w.setCell ⟨G, 0, none⟩ (.int .i64 a)).setCell ⟨G, 1, none⟩ (.int .i64 b)).alloc o).cell? ⟨G, 1, none⟩ = some (.int .i64 b) ∧
    (((w.setCell ⟨G, 0, none⟩ (.int .i64 a)).setCell ⟨G, 1, none⟩ (.int .i64 b)).alloc o).frozen? ⟨G, 0, none⟩ = false ∧ (((w.setCell ⟨G, 0, none⟩ (.int .i64 a)).setCell ⟨G, 1, none⟩ (.int .i64 b)).alloc o).frozen? ⟨G, 1, none⟩ = false := by
  have k0 : ((w.setCell ⟨G, 0, none⟩ (.int .i64 a)).setCell ⟨G, 1, none⟩ (.int .i64 b)).cell? ⟨G, 0, none⟩ = some (.int .i64 a) := by
    rw [World.cell?_setCell_other _ _ _ _ (by simp), World.cell?_setCell_same _ _ _ q0]
  have k1 : ((w.setCell ⟨G, 0, none⟩ (.int .i64 a)).setCell ⟨G, 1, none⟩ (.int .i64 b)).cell? ⟨G, 1, none⟩ = some (.int .i64 b) := by
    rw [World.cell?_setCell_same (u := v)]
    rw [World.cell?_setCell_other _ _ _ _ (by simp), q1]
  have hk := KeepOn.alloc 0 (fun _ => True) ((w.setCell ⟨G, 0, none⟩ (.int .i64 a)).setCell ⟨G, 1, none⟩ (.int .i64 b)) o
  have hlt := World.block_lt_of_cell? _ _ k0
  refine ⟨hk.cell (.inr trivial) k0, hk.cell (.inr trivial) k1, ?_, ?_⟩
  · rw [hk.frz hlt (.inr trivial)]; simp [q2]
  · rw [hk.frz hlt (.inr trivial)]; simp [q3]

theorem take_snoc (xs : List Item) (i : Nat) (hi : i < xs.length) : xs.take i ++ [(itA xs i, itB xs i)] = xs.take (i + 1) := by
  have e : xs[i]? = some (itA xs i, itB xs i) := by
    rw [List.getElem?_eq_getElem hi]
    simp only [itA, itB, List.getElem?_eq_getElem hi]
    rfl
  rw [List.take_add_one, e]
  rfl
theorem Holds.push {L xs : List Item} {i : Nat} (h : Holds L (xs.take i)) (hi : i < xs.length) : Holds (upL L.length (L ++ [(itA xs i, itB xs i)]) L.length) (xs.take (i + 1)) := by
  obtain ⟨r1, r2⟩ := push_ok (itA xs i, itB xs i) h.1
  refine ⟨r1, r2.trans ?_⟩
  rw [← take_snoc xs i hi]
  exact h.2.append_right _

set_option maxRecDepth 100000 in
set_option maxHeartbeats 2000000 in
theorem orders_many (v : Value) (xs : List Item) (w : World) (h : IV w v xs) (hn : 60 < xs.length) :
    Calls Try.prog 11 #[v] w fun e w' => e = .returned (.bool true) ∧ Below w.heap.size w w' := by
  obtain ⟨A, c, rfl, h1, h2, -⟩ := h.form
  clear h
  go_enter Try.func11, Try.ntmps11
  go_wp2_with fail
  refine (awake21_any _).mono ?_
  rintro e w1 ⟨rfl, hb1⟩
  go_wp2
  go_ret
  exact ⟨rfl, hb1⟩

set_option maxRecDepth 100000 in
set_option maxHeartbeats 2000000 in
theorem orders_few (v : Value) (xs : List Item) (w : World) (h : IV w v xs) (hn : xs.length ≤ 60) :
    Calls Try.prog 11 #[v] w fun e w' => e = .returned (.bool true) ∧ Below w.heap.size w w' := by
  obtain ⟨A, c, rfl, h1, h2, hcells⟩ := h.form
  have Hcells := Lib.hid hcells
  clear h hcells
  obtain ⟨base, hbase⟩ : ∃ base, base = w.heap.size := ⟨_, rfl⟩
  rw [← hbase]
  have Hb := Lib.hid hbase
  clear hbase
  go_enter Try.func11, Try.ntmps11
  go_wp2_with fail
  refine (awake21_any _).mono ?_
  rintro e w1 ⟨rfl, hb1⟩
  have Hk1 : Hid (KeepOn base (fun _ => False) w w1) := KeepOn.of_below hb1
  clear hb1
  go_wp2_with fail
  refine (dnew_any base (fun _ => False) _ (fun _ h => h.elim)).mono ?_
  rintro e w2 ⟨rfl, hs2, hk2⟩
  obtain ⟨B, hB⟩ : ∃ B, B = w1.heap.size := ⟨_, rfl⟩
  rw [← hB] at hs2 ⊢
  have HBb : Hid (base ≤ B) := by unfold Hid; rw [Hb.out, hB]; exact Hk1.out.size
  have Hs2 := Lib.hid hs2
  have Hk2 := Lib.hid (Hk1.out.trans hk2)
  clear hs2 hk2 hB
  go_wp2
  go_loopw [5, 20] (fun _ q wr => ∃ (i : Nat) (L : List Item), q = .int .i64 (i : Int) ∧ i ≤ xs.length ∧ Hid (Holds L (xs.take i)) ∧ HS wr base B (fun _ => False) L ∧ KeepOn base (fun _ => False) w wr) (fun _ q _ => xs.length - (intOf q).toNat)
  case atStart => exact ⟨0, [], rfl, by omega, ⟨fun i _ h => absurd h (Nat.not_lt_zero _), List.Perm.refl _⟩, Hs2.out, Hk2.out⟩
  case round =>
    obtain ⟨i, L, rfl, hi, hL, hs, hk⟩ := hrel
    by_cases hlt : i < xs.length
    · obtain ⟨b, off, rfl, k0, k1, -, -⟩ := Hcells.out i hlt
      have hlen : L.length = i := by rw [hL.out.2.length_eq, List.length_take]; omega
      have hbb : b < base := by rw [Hb.out]; exact World.block_lt_of_cell? w _ k0
      have c0 := hk.cell (.inl hbb) k0
      have c1 := hk.cell (.inl hbb) k1
      obtain ⟨xa, hxa⟩ : ∃ xa, itA xs i = xa := ⟨_, rfl⟩
      obtain ⟨xb, hxb⟩ : ∃ xb, itB xs i = xb := ⟨_, rfl⟩
      rw [hxa] at c0
      rw [hxb] at c1
      have Hxa := Lib.hid hxa
      have Hxb := Lib.hid hxb
      have Hlen := Lib.hid hlen
      have Hs := Lib.hid (hs.alloc (.cells #[.int .i64 xa, .int .i64 xb] 50))
      have Hk := Lib.hid hk
      clear k0 k1 hxa hxb hlen hs hk
      go_wp2_with fail
      refine (dpush_any base B xa xb L _ (fun _ => False) Hs.out (by have := Hlen.out; omega) HBb.out).mono ?_
      rintro e w3 ⟨rfl, hs3, hk3⟩
      have Hs3 := Lib.hid hs3
      have Hk3 := Lib.hid ((Hk.out.trans (KeepOn.alloc _ _ _ _)).trans hk3)
      clear hs3 hk3 c0 c1
      go_wp2
      go_roundw
      case rel => exact ⟨i + 1, _, by go_num, by omega, by have := hL.out.push hlt; rw [Hxa.out, Hxb.out] at this; exact this, Hs3.out, Hk3.out⟩
      case measure => simp [intOf]; omega
    · have hLx : Hid (Holds L xs) := by have := hL.out; rw [List.take_of_length_le (by omega)] at this; exact this
      obtain ⟨G, hG⟩ : ∃ G, G = wr.heap.size := ⟨_, rfl⟩
      have hs0 := hs.guard (.cells #[.int .i64 (-9223372036854775808), .int .i64 (-9223372036854775808)] 50)
      rw [← hG] at hs0
      have Hs := Lib.hid (HS.weak (D := fun b => b = G) hs0 (fun b e => .inr e))
      have hbG : base ≤ G := by rw [hG]; have := hk.size; have := Hb.out; omega
      have HbG := Lib.hid hbG
      have Hk := Lib.hid (hk.trans (KeepOn.alloc _ _ _ (.cells #[.int .i64 (-9223372036854775808), .int .i64 (-9223372036854775808)] 50)))
      have hgc := heap_alloc_new wr (.cells #[.int .i64 (-9223372036854775808), .int .i64 (-9223372036854775808)] 50)
      rw [← hG] at hgc
      have Hgc := Lib.hid hgc
      have hGs : wr.heap.size = G := hG.symm
      have hin : Hid (∀ y ∈ L, leP (-9223372036854775808, -9223372036854775808) y ∧ in64 y.1 ∧ in64 y.2) := by
        intro y hy
        obtain ⟨j, hj, rfl⟩ := List.getElem_of_mem (hLx.out.2.mem_iff.1 hy)
        obtain ⟨_, _, _, _, _, b1, b2⟩ := Hcells.out j hj
        have e1 : xs[j].1 = itA xs j := by simp [itA, hj]
        have e2 : xs[j].2 = itB xs j := by simp [itB, hj]
        rw [e1, e2]
        refine ⟨?_, b1, b2⟩
        unfold in64 at b1 b2
        unfold leP
        rw [e1, e2]
        simp only
        omega
      clear hs hk hs0 hG hgc hbG
      go_wp2
      go_loopw [7, 8, 9] (fun q _ _ ws => ∃ (k : Nat) (L : List Item) (l1 l2 : Int), q = .int .i64 (k : Int) ∧ L.length + k = xs.length ∧ Hid (Heap L.length L) ∧ Hid (∀ y ∈ L, leP (l1, l2) y ∧ in64 y.1 ∧ in64 y.2) ∧ HS ws base B (fun b => b = G) L ∧ (ws.cell? ⟨G, 0, none⟩ = some (.int .i64 l1) ∧ ws.cell? ⟨G, 1, none⟩ = some (.int .i64 l2) ∧ ws.frozen? ⟨G, 0, none⟩ = false ∧ ws.frozen? ⟨G, 1, none⟩ = false) ∧ KeepOn base (fun _ => False) w ws) (fun q _ _ _ => xs.length - (intOf q).toNat)
      case atStart => exact ⟨0, L, _, _, rfl, by rw [hLx.out.2.length_eq]; rfl, hLx.out.1, hin.out, Hs.out, ⟨by simp [World.cell?, Hgc.out], by simp [World.cell?, Hgc.out], by simp [World.frozen?, Hgc.out], by simp [World.frozen?, Hgc.out]⟩, Hk.out⟩
      case round =>
        clear hLx hin
        obtain ⟨k, L, l1, l2, rfl, hkl, hH, hin, hs, ⟨g0, g1, g2, g3⟩, hk⟩ := hrel
        have Hs := Lib.hid hs
        have Hk := Lib.hid hk
        clear hs hk
        have hGlt := World.block_lt_of_cell? _ _ g0
        cases L with
        | nil =>
          obtain rfl : k = xs.length := by simpa using hkl
          clear hkl hGlt
          go_wp2_with fail
          refine (dpop_none base B _ _ _ Hs.out).mono ?_
          rintro e w3 ⟨rfl, hs3, hk3⟩
          have Hs3 := Lib.hid (hs3.alloc (.cells #[.int .i64 0, .int .i64 0] 50))
          have Hk3 := Lib.hid ((Hk.out.trans (hk3.weak (fun _ _ h => h.elim))).trans (KeepOn.alloc _ _ _ (.cells #[.int .i64 0, .int .i64 0] 50)))
          clear hs3 hk3 g0 g1 g2 g3
          go_wp2_with fail
          refine (dlen_any base B [] _ _ Hs3.out).mono ?_
          rintro e w4 ⟨rfl, hw4⟩
          go_wp2
          go_ret
          rw [← hw4]
          exact ⟨rfl, Hk3.out.below (by rw [Hb.out]; exact Nat.le_refl _)⟩
        | cons z zs =>
          have hlen : zs.length + 1 + k = xs.length := by simpa using hkl
          clear hkl
          obtain ⟨ys, hp, hH', hperm, hleast⟩ := pop_ok (xs := z :: zs) (by simp) hH.out
          rw [show it (z :: zs) 0 = z from rfl] at hp hperm hleast
          have hz := hin.out z (by simp)
          have hyl : ys.length = zs.length := by have := hperm.length_eq; simpa using this
          have hys : Hid (∀ y ∈ ys, leP z y ∧ in64 y.1 ∧ in64 y.2) := fun y hy => ⟨hleast y (hperm.mem_iff.1 (by simp [hy])), (hin.out y (hperm.mem_iff.1 (by simp [hy]))).2⟩
          have Hz := Lib.hid hz
          have HH := Lib.hid hH'
          have Hlen := Lib.hid hlen
          have Hyl := Lib.hid hyl
          have hz1 : z.1 ≤ 9223372036854775807 := by have := hz.2.1; unfold in64 at this; omega
          have Hpop := Lib.hid (dpop_due base B 9223372036854775807 z z zs ys hz1 (by omega) hp HBb.out _ _ Hs.out)
          clear hp hperm hleast hz hyl hz1 hH' hin hH hlen
          go_wp2_with fail
          refine Hpop.out.mono ?_
          clear Hpop
          rintro e w3 ⟨rfl, hs3, hk3⟩
          have q0 := hk3.cell (.inr rfl) g0
          have q1 := hk3.cell (.inr rfl) g1
          have q2 := (hk3.frz (o := 0) hGlt (.inr rfl)).trans g2
          have q3 := (hk3.frz (o := 1) hGlt (.inr rfl)).trans g3
          obtain ⟨z1, e1⟩ : ∃ z1, z.1 = z1 := ⟨_, rfl⟩
          obtain ⟨z2, e2⟩ : ∃ z2, z.2 = z2 := ⟨_, rfl⟩
          have hle : l1 < z1 ∨ l1 = z1 ∧ l2 ≤ z2 := by have := Hz.out.1; unfold leP at this; rw [e1, e2] at this; exact this
          rw [e1, e2]
          have E1 := Lib.hid e1
          have E2 := Lib.hid e2
          have Hs3 := Lib.hid (((hs3.setAt rfl 0 (.int .i64 z1)).setAt rfl 1 (.int .i64 z2)).alloc (.cells #[.int .i64 z1, .int .i64 z2] 50))
          have Hk3 := Lib.hid ((((Hk.out.trans (hk3.weak (fun _ _ h => h.elim))).trans (KeepOn.setAny _ G 0 (.int .i64 z1) HbG.out (fun h => h))).trans (KeepOn.setAny _ G 1 (.int .i64 z2) HbG.out (fun h => h))).trans (KeepOn.alloc _ _ _ (.cells #[.int .i64 z1, .int .i64 z2] 50)))
          have Hq := Lib.hid (pair_set w3 G z1 z2 _ _ (.cells #[.int .i64 z1, .int .i64 z2] 50) q0 q1 q2 q3)
          have hrest : Hid (Hid (∀ y ∈ ys, leP (z1, z2) y ∧ in64 y.1 ∧ in64 y.2)) := by rw [← e1, ← e2]; exact hys
          have hG3 : G < w3.heap.size := Nat.lt_of_lt_of_le hGlt hk3.size
          have hkx : (k : Int) ≤ (xs.length : Int) := by have := Hlen.out; omega
          have hkx2 : decide ((xs.length : Int) < (k : Int)) = false := by simpa using hkx
          clear hs3 hk3 g0 g1 g2 g3 hGlt e1 e2
          by_cases hq : l1 = z1
          · subst hq
            have hl2 : l2 ≤ z2 := by omega
            have hd2 : decide (z2 < l2) = false := by simpa using hl2
            clear hle
            go_wp2
            exact ⟨⟨k + 1, ys, _, _, by go_num, by have := Hlen.out; have := Hyl.out; omega, HH.out, hrest.out, Hs3.out, Hq.out, Hk3.out⟩, by simp [intOf]; have := Hlen.out; omega⟩
          · have hl1 : l1 < z1 := by omega
            have hd1 : decide (z1 < l1) = false := by simp; omega
            have hd2 : (z1 == l1) = false := by simp; omega
            clear hle hq
            go_wp2
            exact ⟨⟨k + 1, ys, _, _, by go_num, by have := Hlen.out; have := Hyl.out; omega, HH.out, hrest.out, Hs3.out, Hq.out, Hk3.out⟩, by simp [intOf]; have := Hlen.out; omega⟩
theorem dueOrders_walk (v : Value) (xs : List Item) (w : World) (h : IV w v xs) :
    Calls Try.prog 11 #[v] w fun e w' => e = .returned (.bool true) ∧ Below w.heap.size w w' := by
  by_cases hn : xs.length ≤ 60
  · exact orders_few v xs w h hn
  · exact orders_many v xs w h (by omega)
end Go.Proofs.Ytlgmocmekmppeaa

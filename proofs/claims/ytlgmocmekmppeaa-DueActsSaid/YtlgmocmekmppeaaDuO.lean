/- DueActs. -/
import Derived.RangeFuncNested
import Derived.RangeFuncBound
import Derived.RangeFuncCalls
import Derived.RangeFuncLeaves
import Derived.Shelf.Abstract
import Derived.Shelf.RegionOpen
import Derived.WalkKit
import Derived.OwnWalkIn
import Derived.TacticsInMore
import Derived.LoopNIn
import Derived.LoopIn
import Derived.Outline
import Derived.Lib.Hide
import Derived.Lib.SliceRun
import Derived.IntWalk
import Derived.WalkLawsBesides
import Derived.WalkSpells
import Derived.Laws.BitsAllLaws
import Derived.Lib.ConvBytes
import Derived.Maps.AppendAt
import Derived.Lib.AppendStr
import Derived.Lib.SlBytesConst
import Derived.Laws.AppendOwnNone
import Derived.Laws.OwnMore
import Derived.Laws.BytesArg
import Derived.Deep.RegionHeld3
import Derived.BigQuiet
import Derived.Deep.RegionLaw
import Derived.Deep.QuietTactic
import Derived.Test.YtlgmocmekmppeaaProg
import Derived.Deep.DeepFit
import Derived.Test.YtlgmocmekmppeaaDuN
import Derived.Test.YtlgmocmekmppeaaDuJ
set_option linter.unusedVariables false
set_option linter.unusedSimpArgs false
namespace Go.Proofs.Ytlgmocmekmppeaa
open Go Go.RowKit Go.Shelf

set_option maxRecDepth 100000 in
set_option maxHeartbeats 2000000 in
theorem acts_many (v : Value) (l : List ActV) (w : World) (h : AV w v l) (hn : 80 < l.length) :
    Calls Try.prog 10 #[v] w fun e w' => e = .returned (.bool true) ∧ Below w.heap.size w w' := by
  obtain ⟨A, c, rfl, ⟨h1, h2⟩, -⟩ := h
  go_enter Try.func10, Try.ntmps10
  go_wp2_with fail
  refine (awake21_any _).mono ?_
  rintro e w1 ⟨rfl, hb1⟩
  go_wp2
  go_ret
  exact ⟨rfl, hb1⟩

theorem quiet_l {P : Program} {f : FuncId} {args : Array Value} {w : World} {n : Nat} {v : Value}
    (h : Calls P f args (w.drewN n) fun e w' => e = .returned v ∧ w.drewN n = w') : Calls P f args (w.drewN n) fun e w'' => e = .returned v ∧ ∃ m, w'' = w.drewN m :=
  h.mono fun _ _ ⟨he, hm⟩ => ⟨he, n, hm.symm⟩
/-- what the law's loop keeps -/
def AS (W : World) (base B R : Nat) (i : Nat) (L : List Item) : Prop := ∃ D M, Both L M ∧ L.length ≤ i ∧ HS W base B D L ∧ RS W R D M
theorem AS.tail {W : World} {base B R i : Nat} {L : List Item} (h : AS W base B R i L) : True := trivial

set_option maxRecDepth 100000 in
set_option maxHeartbeats 4000000 in
theorem acts_few (v : Value) (l : List ActV) (w : World) (h : AV w v l) (hn : l.length ≤ 80) :
    Calls Try.prog 10 #[v] w fun e w' => e = .returned (.bool true) ∧ Below w.heap.size w w' := by
  obtain ⟨A, c, rfl, ⟨h1, h2⟩, hcells⟩ := h
  have Hcells := Lib.hid hcells
  clear hcells
  obtain ⟨base, hbase⟩ : ∃ base, base = w.heap.size := ⟨_, rfl⟩
  rw [← hbase]
  have Hb := Lib.hid hbase
  clear hbase
  go_enter Try.func10, Try.ntmps10
  go_wp2_with fail
  refine (awake21_any _).mono ?_
  rintro e w1 ⟨rfl, hb1⟩
  have Hk1 : Hid (KeepOn base (fun _ => False) w w1) := KeepOn.of_below hb1
  clear hb1
  go_wp2_with fail
  refine (dnew_any base (fun _ => False) _ (fun _ h => h.elim)).mono ?_
  rintro e w2 ⟨rfl, hs2, hk2⟩
  obtain ⟨B, hB⟩ : ∃ B, B = w1.heap.size := ⟨_, rfl⟩
  rw [← hB] at hs2 ⊢
  have HBb : Hid (base ≤ B) := by unfold Hid; rw [Hb.out, hB]; exact Hk1.out.size
  obtain ⟨R, hR⟩ : ∃ R, R = w2.heap.size := ⟨_, rfl⟩
  have HRb : Hid (base ≤ R) := by unfold Hid; rw [hR]; have := hs2.lt; have := HBb.out; omega
  have hs3 := hs2.guard (.cells #[.slice none 0 0] 48)
  have hbx : Boxed (w2.alloc (.cells #[.slice none 0 0] 48)) w2.heap.size 48 (.slice none 0 0) := heap_alloc_new w2 _
  rw [← hR] at hs3 hbx
  have hAS : AS (w2.alloc (.cells #[.slice none 0 0] 48)) base B R 0 [] := ⟨_, [], Both.nil, by simp, hs3, RS.nil hbx (.inr rfl)⟩
  have HAS := Lib.hid hAS
  have Hk3 := Lib.hid ((Hk1.out.trans hk2).trans (KeepOn.alloc _ _ _ (.cells #[.slice none 0 0] 48)))
  have hR' : w2.heap.size = R := hR.symm
  clear hs2 hk2 hB hR hs3 hbx hAS
  go_wp2
  go_loopw [25] (fun q wr => ∃ (i : Nat) (L : List Item), q = .int .i64 (i : Int) ∧ i ≤ l.length ∧ AS wr base B R i L ∧ KeepOn base (fun _ => False) w wr) (fun q _ => l.length - (intOf q).toNat)
  case atStart => exact ⟨0, [], rfl, by omega, HAS.out, Hk3.out⟩
  case round =>
    obtain ⟨i, L, rfl, hi, ⟨D, M, hboth, hLi, hs, hr⟩, hk⟩ := hrel
    by_cases hlt : i < l.length
    · obtain ⟨b, off, rfl, k0, k1, k2, k3⟩ := Hcells.out i hlt
      have hbb : b < base := by rw [Hb.out]; exact World.block_lt_of_cell? w _ k0
      have c0 := hk.cell (.inl hbb) k0
      have c1 := hk.cell (.inl hbb) k1
      have c2 := hk.cell (.inl hbb) k2
      have c3 := hk.cell (.inl hbb) k3
      obtain ⟨p, hp⟩ : ∃ p, (acAt l i).pop = p := ⟨_, rfl⟩
      obtain ⟨x1, hx1⟩ : ∃ x, (acAt l i).x = x := ⟨_, rfl⟩
      obtain ⟨x2, hx2⟩ : ∃ x, (acAt l i).y = x := ⟨_, rfl⟩
      obtain ⟨now, hnow⟩ : ∃ x, (acAt l i).now = x := ⟨_, rfl⟩
      rw [hp] at c0
      rw [hx1] at c1
      rw [hx2] at c2
      rw [hnow] at c3
      clear k0 k1 k2 k3 hp hx1 hx2 hnow
      obtain ⟨G, hG⟩ : ∃ G, G = wr.heap.size := ⟨_, rfl⟩
      have hsG := hs.guard (.cells #[.bool p, .int .i64 x1, .int .i64 x2, .int .i64 now] 52)
      have hrG := (hr.keep (KeepOn.alloc 0 D wr (.cells #[.bool p, .int .i64 x1, .int .i64 x2, .int .i64 now] 52))).wide (D' := fun b => D b ∨ b = wr.heap.size) (fun b h => .inl h)
      have hbG := heap_alloc_new wr (.cells #[.bool p, .int .i64 x1, .int .i64 x2, .int .i64 now] 52)
      have hbaseG : base ≤ G := by rw [hG]; have := hk.size; have := Hb.out; omega
      have HkG := Lib.hid (hk.trans (KeepOn.alloc _ _ _ (.cells #[.bool p, .int .i64 x1, .int .i64 x2, .int .i64 now] 52)))
      rw [← hG] at hsG hrG hbG
      obtain ⟨wG, hwG⟩ : ∃ wG, wr.alloc (.cells #[.bool p, .int .i64 x1, .int .i64 x2, .int .i64 now] 52) = wG := ⟨_, rfl⟩
      rw [hwG] at hsG hrG hbG HkG
      obtain ⟨DG, hDG⟩ : ∃ DG : Nat → Prop, (fun b => D b ∨ b = G) = DG := ⟨_, rfl⟩
      have hGD : DG G := by rw [← hDG]; exact .inr rfl
      rw [hDG] at hsG hrG
      have q0 : wG.cell? ⟨G, 0, none⟩ = some (.bool p) := by simp [World.cell?, hbG]
      have q1 : wG.cell? ⟨G, 1, none⟩ = some (.int .i64 x1) := by simp [World.cell?, hbG]
      have q2 : wG.cell? ⟨G, 2, none⟩ = some (.int .i64 x2) := by simp [World.cell?, hbG]
      have q3 : wG.cell? ⟨G, 3, none⟩ = some (.int .i64 now) := by simp [World.cell?, hbG]
      have hGR : G ≠ R := by
        obtain ⟨_, _, hbR, _⟩ := hr
        have := hbR.lt
        omega
      have HGR := Lib.hid hGR
      have HwG := Lib.hid hwG
      have HGe := Lib.hid hG
      have HsG := Lib.hid hsG
      have HrG := Lib.hid hrG
      have HGD := Lib.hid hGD
      have HbaseG := Lib.hid hbaseG
      clear hs hr hk hsG hrG hbG hwG hG hGD hDG hbaseG hbb hGR
      cases p with
      | true =>
        obtain ⟨a, b2, c, L', M', hB', hlen', hp1, hp2⟩ := pop_both now L M hboth (by omega)
        have HB' := Lib.hid hB'
        have Hp1 := Lib.hid (hp1 base B wG DG HBb.out HsG.out)
        have Hp2 := Lib.hid hp2
        have hL' : L'.length ≤ i + 1 := by omega
        clear hB' hp1 hp2 hlen'
        go_wp2_with fail
        rw [HwG.out, ← HGe.out]
        refine Hp1.out.mono ?_
        clear Hp1 HwG
        rintro e w3 ⟨rfl, hs3, hk3⟩
        have q3' := hk3.cell (.inr HGD.out) q3
        have hGlt : G < w3.heap.size := World.block_lt_of_cell? _ _ q3'
        have hr3 := HrG.out.keep hk3
        obtain ⟨G7, hG7⟩ : ∃ G7, G7 = w3.heap.size := ⟨_, rfl⟩
        have s3 := Lib.cell?_alloc_some (.cells #[.int .i64 a, .int .i64 b2] 50) q3'
        obtain ⟨w4, hw4⟩ : ∃ w4, w3.alloc (.cells #[.int .i64 a, .int .i64 b2] 50) = w4 := ⟨_, rfl⟩
        have hs4 := hs3.guard (.cells #[.int .i64 a, .int .i64 b2] 50)
        have hk4 := KeepOn.alloc 0 (fun _ => True) w3 (.cells #[.int .i64 a, .int .i64 b2] 50)
        have hr4 := (hr3.keep (KeepOn.alloc 0 DG w3 (.cells #[.int .i64 a, .int .i64 b2] 50))).wide (D' := fun b => DG b ∨ b = w3.heap.size) (fun b h => .inl h)
        have hb4 := heap_alloc_new w3 (.cells #[.int .i64 a, .int .i64 b2] 50)
        have hkk4 := (HkG.out.trans (hk3.weak (fun _ _ h => h.elim))).trans (KeepOn.alloc _ _ _ (.cells #[.int .i64 a, .int .i64 b2] 50))
        rw [hw4] at hs4 hk4 hr4 hb4 hkk4
        rw [← hG7] at hs4 hr4 hb4
        obtain ⟨D4, hD4⟩ : ∃ D4 : Nat → Prop, (fun b => DG b ∨ b = G7) = D4 := ⟨_, rfl⟩
        rw [hD4] at hs4 hr4
        have t0 : w4.cell? ⟨G7, 0, none⟩ = some (.int .i64 a) := by simp [World.cell?, hb4]
        have t1 : w4.cell? ⟨G7, 1, none⟩ = some (.int .i64 b2) := by simp [World.cell?, hb4]
        have hG7R : G7 ≠ R := by
          obtain ⟨_, _, hbR, _⟩ := hr3
          have := hbR.lt
          omega
        have HG7R := Lib.hid hG7R
        have Hs4 := Lib.hid hs4
        have Hr4 := Lib.hid hr4
        have Hkk4 := Lib.hid hkk4
        have Hw4 := Lib.hid hw4
        have HG7 := Lib.hid hG7
        clear hs3 hk3 hr3 hG7 hw4 hs4 hk4 hr4 hb4 hkk4 hD4 hG7R q0 q1 q2 q3 q3' HsG HrG HkG hGlt
        go_wp2_with fail
        rw [Hw4.out, ← HG7.out]
        refine (Hp2.out R w4 D4 Hr4.out).mono ?_
        clear Hp2
        rintro e w5 ⟨rfl, hr5, hg5⟩
        have hk5 := KeepOn.of_grown (n₀ := 0) (D := fun b => b ≠ R) hg5 (fun k e => by cases e; exact ⟨by omega, fun h => h rfl⟩)
        have t0' := Lib.cell?_alloc_some (.cells #[.int .i64 a, .int .i64 b2] 50) (hk5.cell (.inr HG7R.out) t0)
        have t1' := Lib.cell?_alloc_some (.cells #[.int .i64 a, .int .i64 b2] 50) (hk5.cell (.inr HG7R.out) t1)
        have hRD : D4 R := by obtain ⟨_, _, _, _, hRD, _⟩ := Hr4.out; exact hRD
        have hs5 := Hs4.out.grownR hg5 hRD
        have hkk5 := (Hkk4.out.grown hg5 (fun k e => by cases e; exact ⟨HRb.out, fun h => h⟩)).trans (KeepOn.alloc _ _ _ (.cells #[.int .i64 a, .int .i64 b2] 50))
        have hAS5 : AS (w5.alloc (.cells #[.int .i64 a, .int .i64 b2] 50)) base B R (i + 1) L' := ⟨_, M', HB'.out, hL', hs5.alloc _, (hr5.keep (KeepOn.alloc 0 _ w5 _)).wide (fun b h => .inl h)⟩
        have HAS5 := Lib.hid hAS5
        have Hkk5 := Lib.hid hkk5
        clear hr5 hg5 hk5 t0 t1 s3 hRD hs5 hkk5 hAS5 Hs4 Hr4 Hkk4 Hw4 HG7 HG7R HB' hL'
        go_wp2_with fail
        obtain ⟨w6, hw6⟩ : ∃ w6, w5.alloc (.cells #[.int .i64 a, .int .i64 b2] 50) = w6 := ⟨_, rfl⟩
        rw [hw6]
        rw [hw6] at HAS5 Hkk5
        have HAS6 := HAS5
        have Hk6 := Hkk5
        clear HAS5 Hkk5 t0' t1' hw6
        obtain ⟨D6, M6, hb6, hl6, hs6, hr6⟩ := HAS6.out
        have hml := hb6.len
        have Hs6 := Lib.hid hs6
        obtain ⟨A6, c6, hbx, hcc6, -, hxs⟩ := hr6
        rw [← hml] at hbx hcc6
        have hcx := hbx.cell
        have Hb6 := Lib.hid hb6
        have HAS6q := fun n => (show Hid (AS (w6.drewN n) base B R (i + 1) L') from HAS6.out)
        have Hk6q := fun n => Lib.hid (Hk6.out.drewN n)
        have HAS6Q := Lib.hid HAS6q
        have Hk6Q := Lib.hid Hk6q
        clear hb6 hs6 hbx HAS6 Hk6 HAS6q Hk6q
        cases L' with
        | nil =>
          have hcx' : w6.cell? ⟨R, 0, none⟩ = some (.slice A6 0 c6) := hcx
          clear hcx hxs hml hcc6
          go_fit (dnext_none base B w6 D6 Hs6.out)
          rintro e w7 ⟨rfl, rfl⟩
          go_wp2
          go_quiet (first | (go_at_call 34; exact quiet_l (dlen_any base B [] _ D6 Hs6.out)))
          go_wp2
          exact ⟨⟨i + 1, [], by go_num, by omega, (HAS6Q.out _).out, (Hk6Q.out _).out⟩, by simp [intOf]; omega⟩
        | cons z zs =>
          obtain ⟨ms, rfl⟩ : ∃ ms, M6 = z :: ms := by obtain ⟨ms, _, e, _⟩ := Hb6.out.pop; exact ⟨ms, e⟩
          obtain ⟨z1, hz1⟩ : ∃ z1, z.1 = z1 := ⟨_, rfl⟩
          obtain ⟨g, o6, rfl, hg, -, k0, -⟩ := hxs 0 (by simp)
          rw [show itA (z :: ms) 0 = z.1 from rfl, hz1, Nat.zero_mul, Nat.add_zero] at k0
          have hlz : (z :: zs).length = zs.length + 1 := by simp
          rw [hlz] at hcx hcc6 hl6
          have hpos : decide (0 < (zs.length : Int) + 1) = true := by simp <;> omega
          have hd6 := dlen_any base B (z :: zs)
          rw [hlz] at hd6
          have Hd6 := Lib.hid hd6
          have Hz1 := Lib.hid hz1
          clear hxs hml hlz hd6 hz1
          go_fit (dnext_some base B z zs w6 (by omega) D6 Hs6.out)
          rintro e w7 ⟨rfl, rfl⟩
          rw [Hz1.out]
          go_wp2
          go_quiet (first | (go_at_call 34; exact quiet_l (Hd6.out _ D6 Hs6.out)))
          go_wp2
          exact ⟨⟨i + 1, z :: zs, by go_num, by omega, (HAS6Q.out _).out, (Hk6Q.out _).out⟩, by simp [intOf]; omega⟩
      | false =>
        obtain ⟨L', hlen', hp1, hp2⟩ := push_both x1 x2 L M hboth (by omega)
        have Hp1 := Lib.hid (hp1 base B wG DG HBb.out HsG.out)
        have Hp2 := Lib.hid hp2
        have hL' : L'.length ≤ i + 1 := by omega
        clear hp1 hp2 hlen'
        go_wp2_with fail
        rw [HwG.out]
        refine Hp1.out.mono ?_
        clear Hp1 HwG
        rintro e w3 ⟨rfl, hs3, hk3⟩
        have q1' := hk3.cell (.inr HGD.out) q1
        have q2' := hk3.cell (.inr HGD.out) q2
        have Hr3 := Lib.hid (HrG.out.keep hk3)
        have Hs3 := Lib.hid hs3
        have Hkk3 := Lib.hid (HkG.out.trans (hk3.weak (fun _ _ h => h.elim)))
        clear hs3 hk3 q0 q1 q2 q3 HsG HrG HkG
        rw [← HGe.out]
        go_wp2_with fail
        refine (Hp2.out R w3 DG Hr3.out).mono ?_
        clear Hp2
        rintro e w6 ⟨rfl, hg5, M', hB', hr5⟩
        have hRD : DG R := by obtain ⟨_, _, _, _, hRD, _⟩ := Hr3.out; exact hRD
        have hAS6 : AS w6 base B R (i + 1) L' := ⟨_, M', hB', hL', Hs3.out.grownR hg5 hRD, hr5⟩
        have HAS6 := Lib.hid hAS6
        have Hk6 := Lib.hid (Hkk3.out.grown hg5 (fun k e => by cases e; exact ⟨HRb.out, fun h => h⟩))
        clear hr5 hg5 hRD hAS6 Hs3 Hr3 Hkk3 hB' hL' q1' q2'
        go_wp2_with fail
        obtain ⟨D6, M6, hb6, hl6, hs6, hr6⟩ := HAS6.out
        have hml := hb6.len
        have Hs6 := Lib.hid hs6
        obtain ⟨A6, c6, hbx, hcc6, -, hxs⟩ := hr6
        rw [← hml] at hbx hcc6
        have hcx := hbx.cell
        have Hb6 := Lib.hid hb6
        have HAS6q := fun n => (show Hid (AS (w6.drewN n) base B R (i + 1) L') from HAS6.out)
        have Hk6q := fun n => Lib.hid (Hk6.out.drewN n)
        have HAS6Q := Lib.hid HAS6q
        have Hk6Q := Lib.hid Hk6q
        clear hb6 hs6 hbx HAS6 Hk6 HAS6q Hk6q
        cases L' with
        | nil =>
          have hcx' : w6.cell? ⟨R, 0, none⟩ = some (.slice A6 0 c6) := hcx
          clear hcx hxs hml hcc6
          go_fit (dnext_none base B w6 D6 Hs6.out)
          rintro e w7 ⟨rfl, rfl⟩
          go_wp2
          go_quiet (first | (go_at_call 34; exact quiet_l (dlen_any base B [] _ D6 Hs6.out)))
          go_wp2
          exact ⟨⟨i + 1, [], by go_num, by omega, (HAS6Q.out _).out, (Hk6Q.out _).out⟩, by simp [intOf]; omega⟩
        | cons z zs =>
          obtain ⟨ms, rfl⟩ : ∃ ms, M6 = z :: ms := by obtain ⟨ms, _, e, _⟩ := Hb6.out.pop; exact ⟨ms, e⟩
          obtain ⟨z1, hz1⟩ : ∃ z1, z.1 = z1 := ⟨_, rfl⟩
          obtain ⟨g, o6, rfl, hg, -, k0, -⟩ := hxs 0 (by simp)
          rw [show itA (z :: ms) 0 = z.1 from rfl, hz1, Nat.zero_mul, Nat.add_zero] at k0
          have hlz : (z :: zs).length = zs.length + 1 := by simp
          rw [hlz] at hcx hcc6 hl6
          have hpos : decide (0 < (zs.length : Int) + 1) = true := by simp <;> omega
          have hd6 := dlen_any base B (z :: zs)
          rw [hlz] at hd6
          have Hd6 := Lib.hid hd6
          have Hz1 := Lib.hid hz1
          clear hxs hml hlz hd6 hz1
          go_fit (dnext_some base B z zs w6 (by omega) D6 Hs6.out)
          rintro e w7 ⟨rfl, rfl⟩
          rw [Hz1.out]
          go_wp2
          go_quiet (first | (go_at_call 34; exact quiet_l (Hd6.out _ D6 Hs6.out)))
          go_wp2
          exact ⟨⟨i + 1, z :: zs, by go_num, by omega, (HAS6Q.out _).out, (Hk6Q.out _).out⟩, by simp [intOf]; omega⟩
    · have Hk := Lib.hid hk
      clear hk hs hr
      go_wp2
      go_ret
      exact ⟨rfl, Hk.out.below (by rw [Hb.out]; exact Nat.le_refl _)⟩
theorem dueActs_walk (v : Value) (l : List ActV) (w : World) (h : AV w v l) :
    Calls Try.prog 10 #[v] w fun e w' => e = .returned (.bool true) ∧ Below w.heap.size w w' := by
  by_cases hn : l.length ≤ 80
  · exact acts_few v l w h hn
  · exact acts_many v l w h (by omega)
end Go.Proofs.Ytlgmocmekmppeaa

/- The plain Due: Push. -/
import Derived.RangeFuncNested
import Derived.RangeFuncBound
import Derived.RangeFuncCalls
import Derived.RangeFuncLeaves
import Derived.Shelf.Abstract
import Derived.Shelf.RegionOpen
import Derived.WalkKit
import Derived.OwnWalkIn
import Derived.TacticsInMore
import Derived.LoopNIn
import Derived.LoopIn
import Derived.Outline
import Derived.Lib.Hide
import Derived.Lib.SliceRun
import Derived.IntWalk
import Derived.WalkLawsBesides
import Derived.WalkSpells
import Derived.Laws.BitsAllLaws
import Derived.Lib.ConvBytes
import Derived.Maps.AppendAt
import Derived.Lib.AppendStr
import Derived.Lib.SlBytesConst
import Derived.Laws.AppendOwnNone
import Derived.Laws.OwnMore
import Derived.Laws.BytesArg
import Derived.Deep.RegionHeld3
import Derived.BigQuiet
import Derived.Deep.RegionLaw
import Derived.Deep.QuietTactic
import Derived.Test.YtlgmocmekmppeaaProg
import Derived.Test.YtlgmocmekmppeaaDuApp
set_option linter.unusedVariables false
set_option linter.unusedSimpArgs false
namespace Go.Proofs.Ytlgmocmekmppeaa
open Go Go.RowKit Go.Shelf

theorem RS.drawn {w w' : World} {R : Nat} {D : Nat → Prop} {xs : List Item} (h : RS w R D xs) (hd : Drawn w w') : RS w' R D xs := by
  obtain ⟨m, rfl⟩ := hd; exact h
theorem Drawn.trans {a b c : World} (h : Drawn a b) (k : Drawn b c) : Drawn a c := by
  obtain ⟨m, rfl⟩ := h; obtain ⟨n, rfl⟩ := k; exact ⟨_, World.drewN_drewN ..⟩
theorem Drawn.grown {a b : World} (h : Drawn a b) {r : Option Nat} : a.grownBy b r := by
  obtain ⟨m, rfl⟩ := h; exact ⟨rfl, rfl, rfl, Nat.le_refl _, fun _ _ _ => rfl⟩
theorem Drawn.refl (a : World) : Drawn a a := ⟨0, rfl⟩
theorem Drawn.cell {w w' : World} (h : Drawn w w') {a : Addr} {v : Value} (hc : w.cell? a = some v) : w'.cell? a = some v := by
  obtain ⟨m, rfl⟩ := h; exact hc

theorem size50 (w : World) : (sizeOf 50).run Try.prog w = .ok 2 w := by kernel_rfl
theorem elem46 : Try.prog.elem 46 = 50 := by kernel_rfl
theorem slice46_head (A : Option Addr) (n c i : Nat) (h1 : i ≤ c) (w : World) :
    (Instr.slice 46 (.slice A n c) none (some (.int .i64 (i : Int))) (some (.int .i64 (i : Int)))).run Try.prog w = .ok (.slice A i i) w := by
  rw [run_slice_hm w 46 A n c (by rw [elem46]; exact Try.underlying46) .i64 .i64 i i (by omega) (by omega) (by omega), elem46, size50]
  cases A with
  | none => simp [Result.andThen, sliced]
  | some a =>
    have : a.add 0 = a := by unfold Addr.add; simp
    simp [Result.andThen, sliced, this]
def cutI (A : Option Addr) (c lo : Nat) : Option Addr := if c = lo then A else A.map (·.add (lo * 2))
theorem slice46_tail (A : Option Addr) (n c i : Nat) (h1 : i ≤ n) (w : World) :
    (Instr.slice 46 (.slice A n c) (some (.int .i64 (i : Int))) none none).run Try.prog w = .ok (.slice (cutI A c i) (n - i) (c - i)) w := by
  rw [run_slice_l w 46 A n c (by rw [elem46]; exact Try.underlying46) .i64 i (by omega) (by omega), elem46, size50]
  simp [Result.andThen, sliced, cutI]

set_option maxRecDepth 100000 in
set_option maxHeartbeats 2000000 in
theorem rpush_any (R : Nat) (x1 x2 : Int) (xs : List Item) (w : World) (D : Nat → Prop) (h : RS w R D xs) (hmax : xs.length ≤ 100000) :
    Calls Try.prog 32 #[.pointer (some ⟨R, 0, none⟩), .agg #[.int .i64 x1, .int .i64 x2]] w fun e w' => e = .returned (.tuple #[]) ∧ w.grownBy w' (some R) ∧
      ∃ i, i ≤ xs.length ∧ (∀ j, j < i → leP (it xs j) (x1, x2)) ∧ (i = xs.length ∨ leP (x1, x2) (it xs i)) ∧ RS w' R (fun b => D b ∨ (w.heap.size ≤ b ∧ b < w'.heap.size)) (xs.take i ++ (x1, x2) :: xs.drop i) := by
  obtain ⟨i0, hi0, hz0, hz1, hz2⟩ := info_parts info50
  have H := Lib.hid h
  have Hbox := Lib.hid (heap_alloc_new w (.cells #[.int .i64 x1, .int .i64 x2] 50))
  obtain ⟨K, hK⟩ : ∃ K, K = w.heap.size := ⟨_, rfl⟩
  obtain ⟨w0, hw0⟩ : ∃ w0, w.alloc (.cells #[.int .i64 x1, .int .i64 x2] 50) = w0 := ⟨_, rfl⟩
  have hk0 := KeepOn.alloc 0 D w (.cells #[.int .i64 x1, .int .i64 x2] 50)
  have hg0 := World.grownBy_alloc w (.cells #[.int .i64 x1, .int .i64 x2] 50) (some R)
  rw [hw0] at hk0 hg0 Hbox
  have hs0 := h.keep hk0
  have hb0 : w0.heap[K]? = some (.cells #[.int .i64 x1, .int .i64 x2] 50) := by rw [hK]; exact Hbox.out
  have kx1 : w0.cell? ⟨K, 0, none⟩ = some (.int .i64 x1) := by simp [World.cell?, hb0]
  have kx2 : w0.cell? ⟨K, 1, none⟩ = some (.int .i64 x2) := by simp [World.cell?, hb0]
  have Hw0 := Lib.hid hw0
  have HK := Lib.hid hK
  have Hs0 := Lib.hid hs0
  have Hg0 := Lib.hid hg0
  clear hw0 hk0 hg0 hs0 hb0 h hK
  go_enter Try.func32, Try.ntmps32
  go_wp2
  rw [Hw0.out, ← HK.out]
  go_loopw [4] (fun q wr => ∃ (i : Nat), q = .int .i64 (i : Int) ∧ i ≤ xs.length ∧ Hid (∀ j, j < i → leP (it xs j) (x1, x2)) ∧ Drawn w0 wr) (fun q _ => xs.length - (intOf q).toNat)
  case atStart => exact ⟨0, rfl, by omega, fun j h => absurd h (Nat.not_lt_zero _), Drawn.refl _⟩
  case round =>
    obtain ⟨i, rfl, hi, hpre, hd⟩ := hrel
    have Hd := Lib.hid hd
    have Hs := Lib.hid (Hs0.out.drawn hd)
    have k1 := hd.cell kx1
    have k2 := hd.cell kx2
    obtain ⟨A, c, hb, ⟨c1, c2⟩, -, hx⟩ := Hs.out
    have hc := hb.cell
    have Hb := Lib.hid hb
    have Hx := Lib.hid hx
    clear hb hx hd kx1 kx2
    by_cases hlt : i < xs.length
    · obtain ⟨g, off, rfl, hg, -, a1, a2⟩ := Hx.out i hlt
      obtain ⟨a, ha⟩ : ∃ a, itA xs i = a := ⟨_, rfl⟩
      obtain ⟨b, hb⟩ : ∃ b, itB xs i = b := ⟨_, rfl⟩
      rw [ha] at a1
      rw [hb] at a2
      have hit : Hid (it xs i = (a, b)) := by unfold Hid; rw [← ha, ← hb]; rfl
      have e1 : IntKind.i64.wrap ((off : Int) + (i : Int) * 2) = (off : Int) + (i : Int) * 2 ∨ True := .inr trivial
      clear ha hb e1
      have hdl : decide ((i : Int) < (xs.length : Int)) = true := by simp; omega
      by_cases hp : leP (it xs i) (x1, x2)
      · have hpre' : Hid (∀ j, j < i + 1 → leP (it xs j) (x1, x2)) := fun j hj => by
          by_cases e : j = i
          · rw [e]; exact hp
          · exact hpre.out j (by omega)
        rw [hit.out] at hp
        simp only [leP] at hp
        by_cases hq : a = x1
        · have h1 : decide (a < x1) = false := by simp; omega
          have h2 : (a == x1) = true := by simp [hq]
          have h3 : decide (b ≤ x2) = true := by simp; omega
          clear hq hp
          go_wp2
          go_quiet (fail)
          go_wp2
          exact ⟨⟨i + 1, by go_num, by omega, hpre', Hd.out.trans ⟨_, rfl⟩⟩, by simp [intOf]; omega⟩
        · have h1 : decide (a < x1) = true := by simp; omega
          clear hq hp
          go_wp2
          go_quiet (fail)
          go_wp2
          exact ⟨⟨i + 1, by go_num, by omega, hpre', Hd.out.trans ⟨_, rfl⟩⟩, by simp [intOf]; omega⟩
      · have hstop : Hid (i = xs.length ∨ leP (x1, x2) (it xs i)) := by
          right
          unfold leP at *
          omega
        rw [hit.out] at hp
        simp only [leP] at hp
        have h1 : decide (a < x1) = false := by simp; omega
        have hh : (a == x1) = false ∨ ((a == x1) = true ∧ decide (b ≤ x2) = false) := by
          by_cases hq : a = x1
          · exact .inr ⟨by simp [hq], by simp; omega⟩
          · exact .inl (by simp [hq])
        clear hp
        rcases hh with h2 | ⟨h2, h3⟩
        all_goals
          go_wp2
          go_quiet (fail)
          go_wp2
          generalize hwq : wr.drewN _ = wq
          have hdq : Drawn wr wq := ⟨_, hwq.symm⟩
          have Hdq := Lib.hid hdq
          have hb : Boxed wq R 48 (.slice (some ⟨g, off, none⟩) xs.length c) := hdq.box Hb.out
          have d1 := hdq.cell k1
          have d2 := hdq.cell k2
          have hcq := hb.cell
          have hbA := Boxed.alloc (W := wq) hb (.cells #[.int .i64 x1, .int .i64 x2] 50)
          have hcA := hbA.cell
          have HbA := Lib.hid hbA
          clear hwq hdq hb hbA k1 k2 hc hdl
          have s1 := fun w => slice46_head (some ⟨g, off, none⟩) xs.length c i (by omega) w
          have s2 := fun w => slice46_tail (some ⟨g, off, none⟩) xs.length c i (by omega) w
          have hcut : cutI (some ⟨g, off, none⟩) c i = some ⟨g, off + i * 2, none⟩ := by
            unfold cutI; rw [if_neg (by omega)]; simp [add_at]
          rw [hcut] at s2
          have hK1 := KeepOn.alloc 0 (fun _ => True) wq (.cells #[.int .i64 x1, .int .i64 x2] 50)
          have hall : LieAt (wq.alloc (.cells #[.int .i64 x1, .int .i64 x2] 50)).drew g off xs := by
            intro j hj
            obtain ⟨g2, off2, e, _, _, a0, a1⟩ := Hx.out j hj
            cases e
            exact ⟨hK1.cell (.inr trivial) (Hdq.out.cell a0), hK1.cell (.inr trivial) (Hdq.out.cell a1)⟩
          have hLy : LieAt (wq.alloc (.cells #[.int .i64 x1, .int .i64 x2] 50)).drew wq.heap.size 0 [(x1, x2)] := by
            intro j hj
            obtain rfl : j = 0 := by simpa using hj
            have := heap_alloc_new wq (.cells #[.int .i64 x1, .int .i64 x2] 50)
            have h2 : ((wq.alloc (.cells #[.int .i64 x1, .int .i64 x2] 50)).drew).heap[wq.heap.size]? = some (.cells #[.int .i64 x1, .int .i64 x2] 50) := this
            clear this
            constructor
            · simp only [World.cell?, h2]; rfl
            · simp only [World.cell?, h2]; rfl
          have hdl2 : (xs.drop i).length = xs.length - i := List.length_drop
          have htl : (xs.take i).length = i := by rw [List.length_take]; omega
          have hdr : LieAt (wq.alloc (.cells #[.int .i64 x1, .int .i64 x2] 50)).drew g (off + i * 2) (xs.drop i) := by
            intro j hj
            rw [hdl2] at hj
            obtain ⟨a0, a1⟩ := hall (i + j) (by omega)
            have eA : itA (xs.drop i) j = itA xs (i + j) := by simp [itA, List.getElem?_drop]
            have eB : itB (xs.drop i) j = itB xs (i + j) := by simp [itB, List.getElem?_drop]
            rw [eA, eB, show off + i * 2 + j * 2 = off + (i + j) * 2 by omega]
            exact ⟨a0, a1⟩
          obtain ⟨g1, c1', wy, hrun1, hown1, hgr1⟩ := app_full (wq.alloc (.cells #[.int .i64 x1, .int .i64 x2] 50)).drew (some ⟨wq.heap.size, 0, none⟩) [(x1, x2)] (xs.drop i) ⟨g, off + i * 2, none⟩ (c - i) (fun _ => ⟨_, _, rfl, hLy⟩) g (off + i * 2) rfl hdr (by rw [hdl2]; omega) (by rw [hdl2]; simp; omega)
          rw [hdl2] at hrun1 hown1
          have hKy := KeepOn.of_grown (n₀ := 0) (D := fun _ => True) hgr1 (fun k e => by cases e)
          have htk : LieAt wy g off (xs.take i) := by
            intro j hj
            rw [htl] at hj
            obtain ⟨a0, a1⟩ := hall j (by omega)
            have eA : itA (xs.take i) j = itA xs j := by simp [itA, List.getElem?_take, hj]
            have eB : itB (xs.take i) j = itB xs j := by simp [itB, List.getElem?_take, hj]
            rw [eA, eB]
            exact ⟨hKy.cell (.inr trivial) a0, hKy.cell (.inr trivial) a1⟩
          have hly1 : LieAt wy g1 0 ((x1, x2) :: xs.drop i) := hown1.lie
          have hll : ((x1, x2) :: xs.drop i).length = 1 + (xs.length - i) := by simp; omega
          obtain ⟨g', c', wz, hrun, hown, hgr⟩ := app_full wy (some ⟨g, off, none⟩) (xs.take i) ((x1, x2) :: xs.drop i) ⟨g1, 0, none⟩ c1' (fun _ => ⟨_, _, rfl, htk⟩) g1 0 rfl hly1 (by simp) (by rw [htl, hll]; omega)
          rw [htl, hll] at hrun hown
          have hby : Boxed wy R 48 _ := Boxed.kept (W := (wq.alloc (.cells #[.int .i64 x1, .int .i64 x2] 50)).drew) HbA.out hgr1 (by simp)
          have hcy := hby.cell
          have hbz : Boxed wz R 48 _ := Boxed.kept hby hgr (by simp)
          have hcz := hbz.cell
          have hfz := hbz.frozen
          have hRw : R < w.heap.size := by obtain ⟨_, _, hbR, _⟩ := H.out; exact hbR.lt
          have hDR : D R := by obtain ⟨_, _, _, _, hDR, _⟩ := H.out; exact hDR
          have hga := World.grownBy_alloc wq (.cells #[.int .i64 x1, .int .i64 x2] 50) (some R)
          have hgd : wq.grownBy (wq.alloc (.cells #[.int .i64 x1, .int .i64 x2] 50)).drew (some R) := ⟨hga.os, hga.tape, hga.output, hga.size, hga.block⟩
          have hgq : w.grownBy wy (some R) := grownBy_trans (grownBy_trans (grownBy_trans (grownBy_trans Hg0.out (Drawn.grown Hd.out)) (Drawn.grown Hdq.out)) hgd) (grownBy_none hgr1)
          have hfin := RS.pushed (w := w) hgq hRw hby hown (by rw [List.length_append, htl, hll]) hgr hDR
          have Hfin := Lib.hid hfin
          have Hrun := Lib.hid hrun
          have Hrun1 := Lib.hid hrun1
          clear hfin hgq hRw hDR hga hgd hrun hown hgr hrun1 hown1 hgr1 hbz hby hKy htk hly1 hll hdr hall hLy hK1 hdl2 htl hcut
          go_region_law (first | (refine step_append_run rfl (.tmp 62) (.tmp 68) 46 rfl (.slice (some ⟨wq.heap.size, 0, none⟩) 1 1) (.slice (some ⟨g, off + i * 2, none⟩) (xs.length - i) (c - i)) _ _ rfl rfl Hrun1.out ?_) | (refine step_append_run rfl (.tmp 60) (.tmp 69) 46 rfl (.slice (some ⟨g, off, none⟩) i i) (.slice (some ⟨g1, 0, none⟩) (1 + (xs.length - i)) c1') _ _ rfl rfl Hrun.out ?_))
          all_goals
            go_end0
            exact ⟨rfl, Hfin.out.2, i, hi, hpre.out, hstop.out, Hfin.out.1⟩
    · have hstop : Hid (i = xs.length ∨ leP (x1, x2) (it xs i)) := .inl (by omega)
      have hdl : decide ((i : Int) < (xs.length : Int)) = false := by simp; omega
      go_wp2
      go_quiet (fail)
      go_wp2
      generalize hwq : wr.drewN _ = wq
      have hdq : Drawn wr wq := ⟨_, hwq.symm⟩
      have Hdq := Lib.hid hdq
      have hb : Boxed wq R 48 (.slice A xs.length c) := hdq.box Hb.out
      have Hbq := Lib.hid hb
      have d1 := hdq.cell k1
      have d2 := hdq.cell k2
      have hcq := hb.cell
      have hbA := Boxed.alloc (W := wq) hb (.cells #[.int .i64 x1, .int .i64 x2] 50)
      have hcA := hbA.cell
      have HbA := Lib.hid hbA
      clear hwq hdq hb hbA k1 k2 hc hdl
      have hie : i = xs.length := by omega
      subst hie
      have s1 := fun w => slice46_head A xs.length c xs.length (by omega) w
      have s2 := fun w => slice46_tail A xs.length c xs.length (by omega) w
      simp only [Nat.sub_self] at s2
      obtain ⟨A2, hA2⟩ : ∃ A2, cutI A c xs.length = A2 := ⟨_, rfl⟩
      rw [hA2] at s2
      clear hA2
      obtain ⟨c2, hc2⟩ : ∃ c2, c - xs.length = c2 := ⟨_, rfl⟩
      rw [hc2] at s2
      clear hc2
      have hK1 := KeepOn.alloc 0 (fun _ => True) wq (.cells #[.int .i64 x1, .int .i64 x2] 50)
      have hLx : 0 < xs.length → ∃ g off, A = some ⟨g, off, none⟩ ∧ LieAt (wq.alloc (.cells #[.int .i64 x1, .int .i64 x2] 50)).drew g off xs := by
        intro h0
        obtain ⟨g, off, hAe, _⟩ := Hx.out 0 h0
        refine ⟨g, off, hAe, fun j hj => ?_⟩
        obtain ⟨g2, off2, e, _, _, a0, a1⟩ := Hx.out j hj
        rw [hAe] at e
        cases e
        exact ⟨hK1.cell (.inr trivial) (Hdq.out.cell a0), hK1.cell (.inr trivial) (Hdq.out.cell a1)⟩
      have hLy : LieAt (wq.alloc (.cells #[.int .i64 x1, .int .i64 x2] 50)).drew wq.heap.size 0 [(x1, x2)] := by
        intro j hj
        obtain rfl : j = 0 := by simpa using hj
        have := heap_alloc_new wq (.cells #[.int .i64 x1, .int .i64 x2] 50)
        have h2 : ((wq.alloc (.cells #[.int .i64 x1, .int .i64 x2] 50)).drew).heap[wq.heap.size]? = some (.cells #[.int .i64 x1, .int .i64 x2] 50) := this
        clear this
        constructor
        · simp only [World.cell?, h2]; rfl
        · simp only [World.cell?, h2]; rfl
      obtain ⟨g', c', wz, hrun, hown, hgr⟩ := app_full (wq.alloc (.cells #[.int .i64 x1, .int .i64 x2] 50)).drew A xs [(x1, x2)] ⟨wq.heap.size, 0, none⟩ 1 hLx wq.heap.size 0 rfl hLy (by simp) (by simp; omega)
      have hbz : Boxed wz R 48 _ := Boxed.kept (W := (wq.alloc (.cells #[.int .i64 x1, .int .i64 x2] 50)).drew) HbA.out hgr (by simp)
      have hcz := hbz.cell
      have hfz := hbz.frozen
      have hRw : R < w.heap.size := by obtain ⟨_, _, hbR, _⟩ := H.out; exact hbR.lt
      have hDR : D R := by obtain ⟨_, _, _, _, hDR, _⟩ := H.out; exact hDR
      have hga := World.grownBy_alloc wq (.cells #[.int .i64 x1, .int .i64 x2] 50) (some R)
      have hgd : wq.grownBy (wq.alloc (.cells #[.int .i64 x1, .int .i64 x2] 50)).drew (some R) := ⟨hga.os, hga.tape, hga.output, hga.size, hga.block⟩
      have hgq : w.grownBy (wq.alloc (.cells #[.int .i64 x1, .int .i64 x2] 50)).drew (some R) := grownBy_trans (grownBy_trans (grownBy_trans Hg0.out (Drawn.grown Hd.out)) (Drawn.grown Hdq.out)) hgd
      have hfin := RS.pushed (w := w) (n := xs.length + [(x1, x2)].length) hgq hRw (show Boxed (wq.alloc (.cells #[.int .i64 x1, .int .i64 x2] 50)).drew R 48 _ from HbA.out) hown (by simp) hgr hDR
      have Hfin := Lib.hid hfin
      clear hfin hgq hRw hDR hga hgd
      have Hrun := Lib.hid hrun
      have Hown := Lib.hid hown
      have Hgr := Lib.hid hgr
      clear hrun hown hgr hbz hLx hLy hK1
      go_region_law (first | (refine step_append_run rfl (.tmp 62) (.tmp 68) 46 rfl (.slice (some ⟨wq.heap.size, 0, none⟩) 1 1) (.slice A2 0 c2) _ _ rfl rfl (app_nothing _ _ 1 1 A2 c2 (by omega)) ?_) | (refine step_append_run rfl (.tmp 60) (.tmp 69) 46 rfl (.slice A xs.length xs.length) (.slice (some ⟨wq.heap.size, 0, none⟩) 1 1) _ _ rfl rfl Hrun.out ?_))
      all_goals
        go_end0
        exact ⟨rfl, Hfin.out.2, xs.length, Nat.le_refl _, hpre.out, .inl rfl, by rw [List.take_length, List.drop_length]; exact Hfin.out.1⟩
end Go.Proofs.Ytlgmocmekmppeaa

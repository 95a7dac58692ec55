/- on; Sync. -/
import Derived.RangeFuncNested
import Derived.RangeFuncBound
import Derived.RangeFuncCalls
import Derived.RangeFuncLeaves
import Derived.Shelf.Abstract
import Derived.Shelf.RegionOpen
import Derived.WalkKit
import Derived.OwnWalkIn
import Derived.TacticsInMore
import Derived.LoopNIn
import Derived.LoopIn
import Derived.Outline
import Derived.Lib.Hide
import Derived.Lib.SliceRun
import Derived.IntWalk
import Derived.WalkLawsBesides
import Derived.WalkSpells
import Derived.Laws.BitsAllLaws
import Derived.Lib.ConvBytes
import Derived.Maps.AppendAt
import Derived.Lib.AppendStr
import Derived.Lib.SlBytesConst
import Derived.Laws.AppendOwnNone
import Derived.Laws.OwnMore
import Derived.Laws.BytesArg
import Derived.Deep.RegionHeld3
import Derived.BigQuiet
import Derived.Deep.RegionLaw
import Derived.Deep.QuietTactic
import Derived.Lib.OthersKept
import Derived.Test.YtbcnalabalegfaaProg
import Derived.Deep.DeepFit
import Derived.Laws.EntriesVeiled
import Derived.Test.YtbcnalabalegfaaDsG
set_option linter.unusedVariables false
set_option linter.unusedSimpArgs false
namespace Go.Proofs.Ytbcnalabalegfaa
open Go Go.RowKit Go.Shelf
open Go.Proofs (encStr)
variable {W W' : World} {B m n : Nat} {g : List UInt8 → Option Nat} {sl : List UInt8 → Value} {d : Dsk} {S : Nat → Prop}

set_option maxRecDepth 100000 in
set_option maxHeartbeats 2000000 in
/-- **on's change** -/
theorem don1_any (w : World) (P1 P2 fn F : Nat) (caps : Array Value) (b1 : Boxed w P1 44 (.func (.func fn) #[] caps)) (b2 : Boxed w P2 39 (.pointer (some ⟨F, 0, none⟩)))
    (hen : ∀ w, (callFunc fn (#[.pointer (some ⟨F, 0, none⟩)] ++ caps)).run Try.prog w = .ok (.enter fn (#[.pointer (some ⟨F, 0, none⟩)] ++ caps)) w) (Q : World → Prop)
    (hdo : Calls Try.prog fn (#[.pointer (some ⟨F, 0, none⟩)] ++ caps) w fun e w' => e = .returned (.tuple #[]) ∧ Q w') :
    Calls Try.prog 21 #[.pointer (some ⟨P1, 0, none⟩), .pointer (some ⟨P2, 0, none⟩)] w fun e w' => e = .returned (.tuple #[]) ∧ Q w' := by
  have c1 := b1.cell
  have c2 := b2.cell
  have H := Lib.hid hdo
  clear hdo b1 b2
  go_enter Try.func21, Try.ntmps21
  go_wp2_with fail
  refine H.out.mono ?_
  rintro e w1 ⟨rfl, hq⟩
  have HQ := Lib.hid hq
  clear hq
  go_wp2
  go_end0
  exact ⟨rfl, HQ.out⟩
theorem chg_small {d : Dsk} (hsm : d.small) : d.chg.small := by
  unfold Dsk.chg
  split
  · rename_i hpos
    obtain ⟨s1, s2, s3, s4, s5, s6⟩ := hsm
    exact ⟨s1, s2, s3, s4, by show 0 ≤ d.fuse - 1; omega, by show d.fuse - 1 ≤ _; omega⟩
  · exact hsm
set_option maxRecDepth 100000 in
set_option maxHeartbeats 4000000 in
/-- **on**, a file that is there -/
theorem don_some (w : World) (h : DKat w B m n g sl d S) (hdn : d.down = false) (hsm : d.small) (x : List UInt8) (rest : List (List UInt8)) (hok : ∀ y ∈ x :: rest, okNm y) (hrl : rest.length ≤ 10) (v : Value) (hv : TS w v (x :: rest)) (fn F : Nat) (caps : Array Value) (hg : g x = some F)
    (hen : ∀ w, (callFunc fn (#[.pointer (some ⟨F, 0, none⟩)] ++ caps)).run Try.prog w = .ok (.enter fn (#[.pointer (some ⟨F, 0, none⟩)] ++ caps)) w) (Q : World → Prop)
    (hdo : ∀ w1, DKat w1 B m n g sl d.chg S → Chg S w w1 → d.chg.down = false → Calls Try.prog fn (#[.pointer (some ⟨F, 0, none⟩)] ++ caps) w1 fun e w' => e = .returned (.tuple #[]) ∧ Q w') :
    Calls Try.prog 17 #[.pointer (some ⟨B, 0, none⟩), .func (.func fn) #[] caps, v] w fun e w' =>
      (d.chg.down = true ∧ e = .returned (.int .i64 10) ∧ DKat w' B m n g sl d.chg S ∧ Chg S w w') ∨ (d.chg.down = false ∧ e = .returned (.int .i64 0) ∧ Q w') := by
  obtain ⟨W0, hW0⟩ : ∃ q, w.alloc (.cells #[.func (.func fn) #[] caps] 44) = q := ⟨_, rfl⟩
  have hs0 : W0.heap.size = w.heap.size + 1 := by rw [← hW0, alloc_size]
  have hb0 : Below w.heap.size w W0 := by rw [← hW0]; exact (Below.refl w.heap.size w).alloc (Nat.le_refl _) _
  have hx1 : Boxed W0 w.heap.size 44 (.func (.func fn) #[] caps) := by rw [← hW0]; exact Boxed.new w _ _
  have hk0 := h.below hb0
  have hv0 := hv.below hb0
  have HA := Lib.hid (dasked_ok W0 B m d.room d.used d.fuse v (x :: rest) (hk0.cells |> fun q => by rw [hdn] at q; exact q) hv0 hok (by simp; omega))
  have hxl := (hok x (by simp)).len
  obtain ⟨A, c, rfl, ⟨hc1, hc2⟩, hcell⟩ := id hv0
  obtain ⟨gg, o, rfl, hcw⟩ := hcell 0 (by simp)
  have hpos : 0 < (x :: rest).length := by simp
  obtain ⟨k1, hk1⟩ : ∃ q, (x :: rest).length = q := ⟨_, rfl⟩
  rw [hk1] at HA hc1 hpos ⊢
  have i1 : (0 : Int) < (k1 : Int) := by omega
  have HV0 := Lib.hid hv0
  have HK := Lib.hid hk0
  have HX1 := Lib.hid hx1
  have HB0 := Lib.hid hb0
  have HDN := Lib.hid hdn
  have HSM := Lib.hid hsm
  have HLT := Lib.hid h.lt
  have HDO := Lib.hid hdo
  have HG := Lib.hid hg
  have HCW := Lib.hid hcw
  clear hk0 hx1 hb0 hdn hsm h hv hv0 hcell hdo hok hg hcw
  go_enter Try.func17, Try.ntmps17
  go_wp2_with fail
  refine HA.out.mono ?_
  rintro e w1 ⟨rfl, hb1⟩
  have hk1 := HK.out.below hb1
  have hlt1 : w.heap.size + 1 ≤ w1.heap.size := by have := hb1.size; omega
  have y1 := boxed_of HX1.out (hb1.block w.heap.size (by omega))
  obtain ⟨c0, -, -, -, -⟩ := hk1.cells.cell
  have hcw : w1.cell? ⟨gg, o, none⟩ = some (encStr x) := (hb1.cell (p := ⟨gg, o, none⟩) (World.block_lt_of_cell? W0 _ HCW.out)).trans HCW.out
  have hlk : ∀ W, W.heap[m]? = w1.heap[m]? → (Instr.lookup 35 (.map (some m)) (encStr x) false).run Try.prog W = .ok (.pointer (some ⟨F, 0, none⟩)) W := fun W hW => by
    have := (hk1.map.block hW).look (t := 35) (e := 39) keyS Try.underlying35 (fun w => by kernel_rfl) (keyOfS x (by omega))
    rw [HG.out] at this
    exact this
  have bela := (Below.refl w1.heap.size w1).alloc (Nat.le_refl _) (.cells #[.pointer none] 39)
  have l1 := hlk w1.drew rfl
  have l2 := hlk (w1.alloc (.cells #[.pointer none] 39)).drew (bela.block m (hk1.lt m hk1.inM))
  have l3 := hlk (w1.drew.alloc (.cells #[.pointer none] 39)) (bela.block m (hk1.lt m hk1.inM))
  have c0a := (bela.cell (p := ⟨B, 0, none⟩) (World.block_lt_of_cell? w1 _ c0)).trans c0
  have cwa := (bela.cell (p := ⟨gg, o, none⟩) (World.block_lt_of_cell? w1 _ hcw)).trans hcw
  have HK1 := Lib.hid hk1
  have HB1 := Lib.hid hb1
  have HY1 := Lib.hid y1
  clear hk1 hb1 y1 hlk bela HA HK HCW
  go_wp2
  go_region
  all_goals
    have hk2 := HK1.out.below (((Below.refl w1.heap.size w1).alloc (Nat.le_refl _) (.cells #[.pointer (some ⟨F, 0, none⟩)] 39)).drew)
    have hb2 : Below w1.heap.size w1 (w1.alloc (.cells #[.pointer (some ⟨F, 0, none⟩)] 39)).drew := ((Below.refl w1.heap.size w1).alloc (Nat.le_refl _) _).drew
    have y2 : Boxed (w1.alloc (.cells #[.pointer (some ⟨F, 0, none⟩)] 39)).drew w1.heap.size 39 (.pointer (some ⟨F, 0, none⟩)) := Boxed.new w1 _ _
    have y1 := boxed_of HY1.out (hb2.block w.heap.size (by omega))
    obtain ⟨P2, hP2⟩ : ∃ q, w1.heap.size = q := ⟨_, rfl⟩
    obtain ⟨w2, hw2⟩ : ∃ q, (w1.alloc (.cells #[.pointer (some ⟨F, 0, none⟩)] 39)).drew = q := ⟨_, rfl⟩
    rw [hw2] at hk2 hb2 y1 y2 ⊢
    rw [hP2] at y2 hlt1 ⊢
    have hbw : Below w.heap.size w w2 := HB0.out.trans ((HB1.out.mono (by omega)).trans (hb2.mono (by omega)))
    clear hw2 l1 l2 l3 c0 c0a cwa hcw HK1 HB1 HY1 hb2
    have hch := dchange_any w2 hk2 HDN.out HSM.out 21 #[.pointer (some ⟨w.heap.size, 0, none⟩), .pointer (some ⟨P2, 0, none⟩)] (fun _ => rfl) Q
      (fun w3 k1 k2 k3 k4 => don1_any w3 w.heap.size P2 fn F caps (boxed_of y1 (k2.block _ y1.lt (fun e => by have := HLT.out _ e; omega))) (boxed_of y2 (k2.block _ y2.lt (fun e => by have := HLT.out _ e; omega))) hen Q
        (HDO.out w3 k1 ((Chg.of_below hbw).trans k2) k4))
    have z1 := y1.cell
    have z2 := y2.cell
    have HCH := Lib.hid hch
    have HBW := Lib.hid hbw
    clear hch y1 y2 hk2 hbw HDO
    go_wp2_with fail
    refine HCH.out.mono ?_
    rintro e w3 (⟨q1, rfl, q2, q3, -⟩ | ⟨q1, rfl, q2⟩)
    · have Q1 := Lib.hid q1
      have Q2 := Lib.hid q2
      have Q3 := Lib.hid ((Chg.of_below (S := S) HBW.out).trans q3)
      clear q1 q2 q3 HCH
      go_wp2
      go_ret
      exact .inl ⟨Q1.out, rfl, Q2.out, Q3.out⟩
    · have Q1 := Lib.hid q1
      have Q2 := Lib.hid q2
      clear q1 q2 HCH
      go_wp2
      go_ret
      exact .inr ⟨Q1.out, rfl, Q2.out⟩
end Go.Proofs.Ytbcnalabalegfaa

/- The reference's both and Grown; MerkleGrown. -/
import Derived.RangeFuncNested
import Derived.RangeFuncBound
import Derived.RangeFuncCalls
import Derived.RangeFuncLeaves
import Derived.Shelf.Abstract
import Derived.Shelf.RegionOpen
import Derived.WalkKit
import Derived.OwnWalkIn
import Derived.TacticsInMore
import Derived.LoopNIn
import Derived.LoopIn
import Derived.Outline
import Derived.Lib.Hide
import Derived.Lib.SliceRun
import Derived.IntWalk
import Derived.WalkLawsBesides
import Derived.WalkSpells
import Derived.Laws.BitsAllLaws
import Derived.Lib.ConvBytes
import Derived.Maps.AppendAt
import Derived.Lib.AppendStr
import Derived.Lib.SlBytesConst
import Derived.Laws.AppendOwnNone
import Derived.Laws.OwnMore
import Derived.Laws.BytesArg
import Derived.Deep.RegionHeld3
import Derived.BigQuiet
import Derived.Deep.RegionLaw
import Derived.Deep.QuietTactic
import Derived.Lib.OthersKept
import Derived.Test.YtkipnhhdlohnfaaProg
import Derived.Deep.DeepFit
import Derived.Test.YtkipnhhdlohnfaaMkY
import Derived.Test.YtkipnhhdlohnfaaMkZ
set_option linter.unusedVariables false
set_option linter.unusedSimpArgs false
namespace Go.Proofs.Ytkipnhhdlohnfaa
open Go Go.RowKit Go.Shelf

theorem both_any : ∀ (N n m : Nat) (wh : Bool) (old : List UInt8) (pv : Value) (ps : List (List UInt8)) (w : World), ps.length ≤ N → old.length = 32 → HS w pv ps → n ≤ 9223372036854775807 → 1 ≤ m → m ≤ n →
    Calls Try.prog 57 #[.int .i64 (m : Int), .int .i64 (n : Int), .bool wh, .agg (enc8 old).toArray, pv] w (BothSays n m wh old ps w)
  | N, n, m, wh, old, pv, ps, w, hN, hl, hv, hn, h1, h2 => by
    by_cases he : m = n
    · subst he
      cases wh with
      | true => exact both_whole m old pv ps w hl hv
      | false =>
        by_cases hp : ps.length = 1
        · obtain ⟨p, rfl⟩ := List.length_eq_one_iff.1 hp
          exact both_part m old p pv w hl hv
        · exact both_part_not m old pv ps w hl hv hp
    · have hlt : 1 ≤ m ∧ m < n := ⟨h1, by omega⟩
      by_cases h0 : ps.length = 0
      · exact both_none n m wh old pv ps w hl hv hlt h0
      · cases N with
        | zero => omega
        | succ N =>
          obtain ⟨l, hm⟩ : ∃ l, ps.length = l + 1 := ⟨ps.length - 1, by omega⟩
          have IH := fun (n' m' : Nat) (wh' : Bool) (pv' : Value) (w' : World) (hn' : n' ≤ 9223372036854775807) (h1' : 1 ≤ m') (h2' : m' ≤ n') (hv' : HS w' pv' (ps.take l)) => both_any N n' m' wh' old pv' (ps.take l) w' (by rw [List.length_take]; omega) hl hv' hn' h1' h2'
          by_cases hik : m ≤ hlf n
          · exact both_left n m wh old pv ps l w hl hv hn hlt hik hm IH
          · exact both_right n m wh old pv ps l w hl hv hn hlt hik hm IH
/-- two results' cells, filled -/
theorem filled2 (w : World) (m k : List Value) : ∃ W1 W2, (((w.alloc (.cells #[.int .u8 0, .int .u8 0, .int .u8 0, .int .u8 0, .int .u8 0, .int .u8 0, .int .u8 0, .int .u8 0, .int .u8 0, .int .u8 0, .int .u8 0, .int .u8 0, .int .u8 0, .int .u8 0, .int .u8 0, .int .u8 0, .int .u8 0, .int .u8 0, .int .u8 0, .int .u8 0, .int .u8 0, .int .u8 0, .int .u8 0, .int .u8 0, .int .u8 0, .int .u8 0, .int .u8 0, .int .u8 0, .int .u8 0, .int .u8 0, .int .u8 0, .int .u8 0] 24)).alloc (.cells #[.int .u8 0, .int .u8 0, .int .u8 0, .int .u8 0, .int .u8 0, .int .u8 0, .int .u8 0, .int .u8 0, .int .u8 0, .int .u8 0, .int .u8 0, .int .u8 0, .int .u8 0, .int .u8 0, .int .u8 0, .int .u8 0, .int .u8 0, .int .u8 0, .int .u8 0, .int .u8 0, .int .u8 0, .int .u8 0, .int .u8 0, .int .u8 0, .int .u8 0, .int .u8 0, .int .u8 0, .int .u8 0, .int .u8 0, .int .u8 0, .int .u8 0, .int .u8 0] 24)).setRow w.heap.size m.toArray) = W1 ∧ W1.setRow (w.heap.size + 1) k.toArray = W2 ∧ Row ((w.alloc (.cells #[.int .u8 0, .int .u8 0, .int .u8 0, .int .u8 0, .int .u8 0, .int .u8 0, .int .u8 0, .int .u8 0, .int .u8 0, .int .u8 0, .int .u8 0, .int .u8 0, .int .u8 0, .int .u8 0, .int .u8 0, .int .u8 0, .int .u8 0, .int .u8 0, .int .u8 0, .int .u8 0, .int .u8 0, .int .u8 0, .int .u8 0, .int .u8 0, .int .u8 0, .int .u8 0, .int .u8 0, .int .u8 0, .int .u8 0, .int .u8 0, .int .u8 0, .int .u8 0] 24)).alloc (.cells #[.int .u8 0, .int .u8 0, .int .u8 0, .int .u8 0, .int .u8 0, .int .u8 0, .int .u8 0, .int .u8 0, .int .u8 0, .int .u8 0, .int .u8 0, .int .u8 0, .int .u8 0, .int .u8 0, .int .u8 0, .int .u8 0, .int .u8 0, .int .u8 0, .int .u8 0, .int .u8 0, .int .u8 0, .int .u8 0, .int .u8 0, .int .u8 0, .int .u8 0, .int .u8 0, .int .u8 0, .int .u8 0, .int .u8 0, .int .u8 0, .int .u8 0, .int .u8 0] 24)) w.heap.size 24 Z32 ∧ Row W1 (w.heap.size + 1) 24 Z32 ∧ Row W2 w.heap.size 24 m ∧ Row W2 (w.heap.size + 1) 24 k ∧ (∀ b t l, Row w b t l → Row W2 b t l) ∧ Below w.heap.size w W2 := by
  have hr0 := (Row.new w #[.int .u8 0, .int .u8 0, .int .u8 0, .int .u8 0, .int .u8 0, .int .u8 0, .int .u8 0, .int .u8 0, .int .u8 0, .int .u8 0, .int .u8 0, .int .u8 0, .int .u8 0, .int .u8 0, .int .u8 0, .int .u8 0, .int .u8 0, .int .u8 0, .int .u8 0, .int .u8 0, .int .u8 0, .int .u8 0, .int .u8 0, .int .u8 0, .int .u8 0, .int .u8 0, .int .u8 0, .int .u8 0, .int .u8 0, .int .u8 0, .int .u8 0, .int .u8 0] 24).alloc (.cells #[.int .u8 0, .int .u8 0, .int .u8 0, .int .u8 0, .int .u8 0, .int .u8 0, .int .u8 0, .int .u8 0, .int .u8 0, .int .u8 0, .int .u8 0, .int .u8 0, .int .u8 0, .int .u8 0, .int .u8 0, .int .u8 0, .int .u8 0, .int .u8 0, .int .u8 0, .int .u8 0, .int .u8 0, .int .u8 0, .int .u8 0, .int .u8 0, .int .u8 0, .int .u8 0, .int .u8 0, .int .u8 0, .int .u8 0, .int .u8 0, .int .u8 0, .int .u8 0] 24)
  have hr1 : Row ((w.alloc (.cells #[.int .u8 0, .int .u8 0, .int .u8 0, .int .u8 0, .int .u8 0, .int .u8 0, .int .u8 0, .int .u8 0, .int .u8 0, .int .u8 0, .int .u8 0, .int .u8 0, .int .u8 0, .int .u8 0, .int .u8 0, .int .u8 0, .int .u8 0, .int .u8 0, .int .u8 0, .int .u8 0, .int .u8 0, .int .u8 0, .int .u8 0, .int .u8 0, .int .u8 0, .int .u8 0, .int .u8 0, .int .u8 0, .int .u8 0, .int .u8 0, .int .u8 0, .int .u8 0] 24)).alloc (.cells #[.int .u8 0, .int .u8 0, .int .u8 0, .int .u8 0, .int .u8 0, .int .u8 0, .int .u8 0, .int .u8 0, .int .u8 0, .int .u8 0, .int .u8 0, .int .u8 0, .int .u8 0, .int .u8 0, .int .u8 0, .int .u8 0, .int .u8 0, .int .u8 0, .int .u8 0, .int .u8 0, .int .u8 0, .int .u8 0, .int .u8 0, .int .u8 0, .int .u8 0, .int .u8 0, .int .u8 0, .int .u8 0, .int .u8 0, .int .u8 0, .int .u8 0, .int .u8 0] 24)) (w.heap.size + 1) 24 Z32 := by
    have := Row.new (w.alloc (.cells #[.int .u8 0, .int .u8 0, .int .u8 0, .int .u8 0, .int .u8 0, .int .u8 0, .int .u8 0, .int .u8 0, .int .u8 0, .int .u8 0, .int .u8 0, .int .u8 0, .int .u8 0, .int .u8 0, .int .u8 0, .int .u8 0, .int .u8 0, .int .u8 0, .int .u8 0, .int .u8 0, .int .u8 0, .int .u8 0, .int .u8 0, .int .u8 0, .int .u8 0, .int .u8 0, .int .u8 0, .int .u8 0, .int .u8 0, .int .u8 0, .int .u8 0, .int .u8 0] 24)) #[.int .u8 0, .int .u8 0, .int .u8 0, .int .u8 0, .int .u8 0, .int .u8 0, .int .u8 0, .int .u8 0, .int .u8 0, .int .u8 0, .int .u8 0, .int .u8 0, .int .u8 0, .int .u8 0, .int .u8 0, .int .u8 0, .int .u8 0, .int .u8 0, .int .u8 0, .int .u8 0, .int .u8 0, .int .u8 0, .int .u8 0, .int .u8 0, .int .u8 0, .int .u8 0, .int .u8 0, .int .u8 0, .int .u8 0, .int .u8 0, .int .u8 0, .int .u8 0] 24
    rw [alloc_size] at this
    exact this
  refine ⟨_, _, rfl, rfl, hr0, hr1.setRow_ne m.toArray (g := w.heap.size) (by omega), ((hr0.setRow m).setRow_ne k.toArray (g := w.heap.size + 1) (by omega)), (hr1.setRow_ne m.toArray (g := w.heap.size) (by omega)).setRow k, fun b t l h => ?_, ?_⟩
  · exact (((h.alloc (.cells #[.int .u8 0, .int .u8 0, .int .u8 0, .int .u8 0, .int .u8 0, .int .u8 0, .int .u8 0, .int .u8 0, .int .u8 0, .int .u8 0, .int .u8 0, .int .u8 0, .int .u8 0, .int .u8 0, .int .u8 0, .int .u8 0, .int .u8 0, .int .u8 0, .int .u8 0, .int .u8 0, .int .u8 0, .int .u8 0, .int .u8 0, .int .u8 0, .int .u8 0, .int .u8 0, .int .u8 0, .int .u8 0, .int .u8 0, .int .u8 0, .int .u8 0, .int .u8 0] 24)).alloc (.cells #[.int .u8 0, .int .u8 0, .int .u8 0, .int .u8 0, .int .u8 0, .int .u8 0, .int .u8 0, .int .u8 0, .int .u8 0, .int .u8 0, .int .u8 0, .int .u8 0, .int .u8 0, .int .u8 0, .int .u8 0, .int .u8 0, .int .u8 0, .int .u8 0, .int .u8 0, .int .u8 0, .int .u8 0, .int .u8 0, .int .u8 0, .int .u8 0, .int .u8 0, .int .u8 0, .int .u8 0, .int .u8 0, .int .u8 0, .int .u8 0, .int .u8 0, .int .u8 0] 24)).setRow_ne m.toArray (g := w.heap.size) (by have := h.lt; omega)).setRow_ne k.toArray (g := w.heap.size + 1) (by have := h.lt; omega)
  · exact below_setRow (below_setRow (((Below.refl _ w).alloc (Nat.le_refl _) _).alloc (by rw [alloc_size]; omega) _) (Nat.le_refl _) _) (by omega) _
set_option maxHeartbeats 4000000 in
set_option maxRecDepth 100000 in
theorem qgrown_in (old root : List UInt8) (m n : Nat) (pv : Value) (ps : List (List UInt8)) (w : World) (ho : old.length = 32) (hr : root.length = 32) (hv : HS w pv ps) (h1 : 1 ≤ m) (h2 : m ≤ n) (hn : n ≤ 9223372036854775807) (hmax : ps.length ≤ 70) (b : Bool) (hb : bOk n m true ps = b) (res : Bool) (hres : res = if b = true then ((bTwo n m true old ps).1 == old && (bTwo n m true old ps).2 == root) else false) :
    Calls Try.prog 39 #[.agg (enc8 old).toArray, .int .i64 (m : Int), .agg (enc8 root).toArray, .int .i64 (n : Int), pv] w fun e w' => e = .returned (.bool res) ∧ Below w.heap.size w w' := by
  obtain ⟨C, c, rfl, hc, -⟩ := hv.form
  obtain ⟨W, A, hW, hA, hsz, r0, r1, hm⟩ := two_boxed w (enc8 old) (enc8 root)
  have hup := both_any ps.length n m true old _ ps W (Nat.le_refl _) ho (hv.below (by rw [hA]; exact hm.bel)) hn h1 h2
  unfold BothSays at hup
  rw [hb] at hup
  obtain ⟨L, hL⟩ : ∃ L, ps.length = L := ⟨_, rfl⟩
  have i0 := info32 old ho
  have i1 := info32 root hr
  obtain ⟨tx, htx⟩ : ∃ t, bTwo n m true old ps = t := ⟨_, rfl⟩
  rw [htx] at hup hres
  obtain ⟨ar, har⟩ : ∃ ar, enc8 old = ar := ⟨_, rfl⟩
  obtain ⟨al, hal⟩ : ∃ al, enc8 root = al := ⟨_, rfl⟩
  rw [har] at hW r0 i0 hup
  rw [hal] at hW r1 i1
  rw [har, hal]
  rw [hL] at hmax ⊢
  rw [hL] at hup
  have HUP := Lib.hid hup
  have HRES := Lib.hid hres
  have HOLD := Lib.hid ho
  have HROOT := Lib.hid hr
  have HAR := Lib.hid har
  have HAL := Lib.hid hal
  have HM := Lib.hid hm
  have HW := Lib.hid hW
  have R0 := Lib.hid r0
  have R1 := Lib.hid r1
  have I0 := Lib.hid i0
  have I1 := Lib.hid i1
  clear hv hup hres hr ho hm hW r0 r1 i0 i1 har hal hL hb hsz hc htx
  have g1 : decide ((m : Int) < 1) = false := by simp; omega
  have g2 : decide ((n : Int) < (m : Int)) = false := by simp; omega
  have g3 : decide (n < m) = false := by simp; omega
  have g4 : decide ((70 : Int) < (L : Int)) = false := by simp; omega
  have g5 : decide (70 < L) = false := by simp; omega
  go_enter Try.func39, Try.ntmps39
  go_wp2_with (first
    | (rw [HW.out]; refine R0.out.load rfl 24 (.tmp 5) rfl rfl _ _ Try.underlying24 I0.out ?_))
  refine HUP.out.mono ?_
  rintro e w1 ⟨x, y, rfl, hx32, hy32, hx, hb1⟩
  obtain ⟨W1, W2, hW1, hW2, q10, q11, qx, qy, hkeep, hb3⟩ := filled2 w1 (enc8 x) (enc8 y)
  have ra3 := hkeep _ _ _ (R0.out.belowS hb1)
  have rb3 := hkeep _ _ _ (R1.out.belowS hb1)
  have m3 := (HM.out.call hb1).call hb3
  have ix := info32 x hx32
  have iy := info32 y hy32
  have lx : (enc8 x).length = 32 := by rw [enc8_len, hx32]
  have ly : (enc8 y).length = 32 := by rw [enc8_len, hy32]
  have fx := enc8_all x
  have fy := enc8_all y
  have heq := fun w => run_eql_sum x old hx32 HOLD.out w
  have heq2 := fun w => run_eql_sum y root hy32 HROOT.out w
  rw [HAR.out] at heq
  rw [HAL.out] at heq2
  have hrr := HRES.out
  obtain ⟨ax, hax⟩ : ∃ ax, enc8 x = ax := ⟨_, rfl⟩
  obtain ⟨ay, hay⟩ : ∃ ay, enc8 y = ay := ⟨_, rfl⟩
  rw [hax] at hW1 ix lx fx heq qx ⊢
  rw [hay] at hW2 iy ly fy heq2 qy ⊢
  have HW1 := Lib.hid hW1
  have HW2 := Lib.hid hW2
  have RN := Lib.hid q10
  have RN2 := Lib.hid q11
  have RX := Lib.hid qx
  have RY := Lib.hid qy
  have RA := Lib.hid ra3
  have RB := Lib.hid rb3
  have M3 := Lib.hid m3
  have IX := Lib.hid ix
  have LX := Lib.hid lx
  have FX := Lib.hid fx
  have IY := Lib.hid iy
  have LY := Lib.hid ly
  have FY := Lib.hid fy
  cases b with
  | true =>
    rw [if_pos rfl, ← hx rfl] at hrr
    obtain ⟨b1, hb1e⟩ : ∃ b, (x == old) = b := ⟨_, rfl⟩
    obtain ⟨b2, hb2e⟩ : ∃ b, (y == root) = b := ⟨_, rfl⟩
    rw [hb1e] at heq hrr
    rw [hb2e] at heq2 hrr
    clear hb1 hW1 hW2 q10 q11 qx qy hkeep hb3 ra3 rb3 m3 ix lx fx iy ly fy hx hx32 hy32 hax hay HRES HUP HM R0 R1 hb1e hb2e
    cases b1 with
    | true =>
      subst hrr
      go_wp2_with (first
        | (refine RN.out.store (m := ax) rfl 24 (.tmp 11) (.tmp 32) rfl rfl rfl IX.out (by rw [LX.out]; rfl) FX.out ?_; rw [HW1.out])
        | (refine RN2.out.store (m := ay) rfl 24 (.tmp 12) (.tmp 33) rfl rfl rfl IY.out (by rw [LY.out]; rfl) FY.out ?_; rw [HW2.out])
        | (refine RX.out.loadg rfl 24 (.tmp 11) rfl rfl _ _ Try.underlying24 IX.out ?_)
        | (refine RY.out.loadg rfl 24 (.tmp 12) rfl rfl _ _ Try.underlying24 IY.out ?_)
        | (refine RA.out.loadg rfl 24 (.tmp 5) rfl rfl _ _ Try.underlying24 I0.out ?_)
        | (refine RB.out.loadg rfl 24 (.tmp 7) rfl rfl _ _ Try.underlying24 I1.out ?_))
      go_ret
      exact ⟨by simp, by rw [hA]; exact M3.out.bel⟩
    | false =>
      subst hrr
      go_wp2_with (first
        | (refine RN.out.store (m := ax) rfl 24 (.tmp 11) (.tmp 32) rfl rfl rfl IX.out (by rw [LX.out]; rfl) FX.out ?_; rw [HW1.out])
        | (refine RN2.out.store (m := ay) rfl 24 (.tmp 12) (.tmp 33) rfl rfl rfl IY.out (by rw [LY.out]; rfl) FY.out ?_; rw [HW2.out])
        | (refine RX.out.loadg rfl 24 (.tmp 11) rfl rfl _ _ Try.underlying24 IX.out ?_)
        | (refine RA.out.loadg rfl 24 (.tmp 5) rfl rfl _ _ Try.underlying24 I0.out ?_))
      go_ret
      exact ⟨by simp, by rw [hA]; exact M3.out.bel⟩
  | false =>
    rw [if_neg (by decide)] at hrr
    subst hrr
    clear hb1 hW1 hW2 q10 q11 qx qy hkeep hb3 ra3 rb3 m3 ix lx fx iy ly fy hx hx32 hy32 hax hay heq heq2 HRES HUP HM R0 R1
    go_wp2_with (first
      | (refine RN.out.store (m := ax) rfl 24 (.tmp 11) (.tmp 32) rfl rfl rfl IX.out (by rw [LX.out]; rfl) FX.out ?_; rw [HW1.out])
      | (refine RN2.out.store (m := ay) rfl 24 (.tmp 12) (.tmp 33) rfl rfl rfl IY.out (by rw [LY.out]; rfl) FY.out ?_; rw [HW2.out]))
    go_ret
    exact ⟨rfl, by rw [hA]; exact M3.out.bel⟩
set_option maxHeartbeats 2000000 in
set_option maxRecDepth 100000 in
theorem qgrown_out (old root : List UInt8) (m n : Int) (pv : Value) (w : World) (hi : ¬ (1 ≤ m ∧ m ≤ n)) :
    Calls Try.prog 39 #[.agg (enc8 old).toArray, .int .i64 m, .agg (enc8 root).toArray, .int .i64 n, pv] w fun e w' => e = .returned (.bool false) ∧ Below w.heap.size w w' := by
  obtain ⟨W, A, hW, hA, hsz, r0, r1, hm⟩ := two_boxed w (enc8 old) (enc8 root)
  obtain ⟨ar, har⟩ : ∃ ar, enc8 old = ar := ⟨_, rfl⟩
  obtain ⟨al, hal⟩ : ∃ al, enc8 root = al := ⟨_, rfl⟩
  rw [har, hal] at hW ⊢
  have HB : Hid (Below w.heap.size w ((w.alloc (.cells ar.toArray 24)).alloc (.cells al.toArray 24))) := by unfold Hid; rw [hW, hA]; exact hm.bel
  clear hW hA hsz r0 r1 hm har hal
  by_cases h0 : 1 ≤ m
  · have d0 : decide (m < 1) = false := decide_eq_false (by omega)
    have d1 : decide (n < m) = true := decide_eq_true (by omega)
    clear hi
    go_enter Try.func39, Try.ntmps39
    go_wp2
    go_ret
    exact ⟨rfl, HB.out⟩
  · have d0 : decide (m < 1) = true := decide_eq_true (by omega)
    clear hi
    go_enter Try.func39, Try.ntmps39
    go_wp2
    go_ret
    exact ⟨rfl, HB.out⟩
/-- **the reference's Grown** -/
theorem qgrown_any (old root : List UInt8) (m n : Int) (pv : Value) (ps : List (List UInt8)) (w : World) (ho : old.length = 32) (hr : root.length = 32) (hv : HS w pv ps) (hn : n ≤ 9223372036854775807) (hmax : ps.length ≤ 70) :
    Calls Try.prog 39 #[.agg (enc8 old).toArray, .int .i64 m, .agg (enc8 root).toArray, .int .i64 n, pv] w fun e w' => e = .returned (.bool (grB old root m n ps)) ∧ Below w.heap.size w w' := by
  by_cases h : 1 ≤ m ∧ m ≤ n
  · obtain ⟨j, rfl⟩ : ∃ j : Nat, m = j := ⟨m.toNat, by omega⟩
    obtain ⟨p, rfl⟩ : ∃ p : Nat, n = p := ⟨n.toNat, by omega⟩
    exact qgrown_in old root j p pv ps w ho hr hv (by omega) (by omega) (by omega) hmax _ rfl _ (grB_two old root j p ps (by omega) (by omega))
  · have : grB old root m n ps = false := by unfold grB; rw [if_neg h]
    rw [this]
    exact qgrown_out old root m n pv w h
set_option maxHeartbeats 4000000 in
set_option maxRecDepth 100000 in
theorem merkleGrown_walk (v : Value) (root : List UInt8) (i : Int) (u : Value) (leaf : List UInt8) (n : Int) (pv : Value) (ps : List (List UInt8)) (w : World) (hv : v = .agg (enc8 root).toArray ∧ root.length = 32) (hi : (Lit.int .i64 i).wf = true) (hu : u = .agg (enc8 leaf).toArray ∧ leaf.length = 32) (hn : (Lit.int .i64 n).wf = true) (hp : HS w pv ps) :
    Calls Try.prog 12 #[v, .int .i64 i, u, .int .i64 n, pv] w fun e w' => e = .returned (.bool true) ∧ Below w.heap.size w w' := by
  obtain ⟨rfl, hr⟩ := hv
  obtain ⟨rfl, hl⟩ := hu
  have hnb := (bounds_i64 hn).2
  obtain ⟨W, A, hW, hA, hsz, r0, r1, hm⟩ := two_boxed w (enc8 root) (enc8 leaf)
  have hf := fun w' hb => few_any _ ps w' (hp.below (W' := w') hb)
  have i0 := info32 root hr
  have i1 := info32 leaf hl
  by_cases kl : ps.length ≤ 20
  · rw [show decide (ps.length ≤ 20) = true by simp; omega] at hf
    have h1 := fun w' hb => grown_any root leaf i n _ ps w' hr hl (hp.below (W' := w') hb) (by omega)  (by omega)
    have h2 := fun w' hb => qgrown_any root leaf i n _ ps w' hr hl (hp.below (W' := w') hb) (by omega) (by omega)
    obtain ⟨res, hres⟩ : ∃ res, grB root leaf i n ps = res := ⟨_, rfl⟩
    simp only [hres] at h1 h2
    obtain ⟨ar, har⟩ : ∃ ar, enc8 root = ar := ⟨_, rfl⟩
    obtain ⟨al, hal⟩ : ∃ al, enc8 leaf = al := ⟨_, rfl⟩
    rw [har] at hW r0 i0
    rw [hal] at hW r1 i1
    simp only [har, hal] at h1 h2
    rw [har, hal]
    have HF := Lib.hid hf
    have H1 := Lib.hid h1
    have H2 := Lib.hid h2
    have HM := Lib.hid hm
    have HW := Lib.hid hW
    have R0 := Lib.hid r0
    have R1 := Lib.hid r1
    clear hf h1 h2 hm hW r0 r1 har hal hres hp hn hi hnb hr hl
    have hu := Try.underlying24
    go_enter Try.func12, Try.ntmps12
    go_wp2_with fail
    rw [HW.out]
    refine (awake05_any _).mono ?_
    rintro e w1 ⟨rfl, hb1⟩
    have m1 := HM.out.call hb1
    have p0 := (R0.out.belowS hb1).range
    have p1 := (R1.out.belowS hb1).range
    clear hb1 HM HW R0 R1
    go_wp2_with fail
    refine (HF.out _ (by rw [hA]; exact m1.bel)).mono ?_
    rintro e w2 ⟨rfl, rfl⟩
    go_wp2_with fail
    refine wp_region_noPanic ?_
    refine wp_region_held_drew (S := (fun w' => Mine A w w' ∧ w'.rangeAt A 0 ar ∧ w'.rangeAt (A + 1) 0 al)) (by kernel_rfl) ?_ (fun hHeld => ?_)
    · exact ⟨⟨m1.le, m1.bel.drew⟩, (World.rangeAt_drew _ _ _ _).2 p0, (World.rangeAt_drew _ _ _ _).2 p1⟩
    refine wpAnyH_take (i := 0) (oi := { dst := some 16, op := Op.load 24 (Operand.tmp 5), type := 24, pos := "law.go:92", after := #[], guard := none }) (v := _) rfl (by kernel_rfl) (by kernel_rfl) (by kernel_rfl) (fun _ _ _ h => h) (yieldsIf_load_mid (by rfl) _ _ rfl _ _ rfl _ _ (by intro w hSw; (try dsimp only at hSw); go_split_ands; assumption) (by assumption) rfl (by first | assumption | (simp only [*]; done))) (by assumption) ?_
    try simp only [Act.put, List.setIfInBounds_toArray, List.set_cons_zero, List.set_cons_succ]
    refine wpAnyH_take (i := 1) (oi := { dst := some 17, op := Op.move (Operand.tmp 1), type := 3, pos := "law.go:92", after := #[], guard := none }) (v := ?v1_0) rfl (by kernel_rfl) (by kernel_rfl) (by kernel_rfl) (fun _ _ _ h => h) (Or.inl ⟨by rfl, ?y1_0⟩) (by assumption) ?r1_0
    case y1_0 => intro w hSw; (try dsimp only at hSw); go_simp; try with_reducible rfl
    try simp only [Act.put, List.setIfInBounds_toArray, List.set_cons_zero, List.set_cons_succ]
    refine wpAnyH_take (i := 2) (oi := { dst := some 18, op := Op.load 24 (Operand.tmp 7), type := 24, pos := "law.go:92", after := #[], guard := none }) (v := _) rfl (by kernel_rfl) (by kernel_rfl) (by kernel_rfl) (fun _ _ _ h => h) (yieldsIf_load_mid (by rfl) _ _ rfl _ _ rfl _ _ (by intro w hSw; (try dsimp only at hSw); go_split_ands; assumption) (by assumption) rfl (by first | assumption | (simp only [*]; done))) (by assumption) ?_
    try simp only [Act.put, List.setIfInBounds_toArray, List.set_cons_zero, List.set_cons_succ]
    refine wpAnyH_take (i := 3) (oi := { dst := some 19, op := Op.move (Operand.tmp 3), type := 3, pos := "law.go:92", after := #[], guard := none }) (v := ?v3_1) rfl (by kernel_rfl) (by kernel_rfl) (by kernel_rfl) (fun _ _ _ h => h) (Or.inl ⟨by rfl, ?y3_1⟩) (by assumption) ?r3_1
    case y3_1 => intro w hSw; (try dsimp only at hSw); go_simp; try with_reducible rfl
    try simp only [Act.put, List.setIfInBounds_toArray, List.set_cons_zero, List.set_cons_succ]
    refine wpAnyH_take (i := 4) (oi := { dst := some 20, op := Op.move (Operand.tmp 4), type := 29, pos := "law.go:92", after := #[], guard := none }) (v := ?v4_2) rfl (by kernel_rfl) (by kernel_rfl) (by kernel_rfl) (fun _ _ _ h => h) (Or.inl ⟨by rfl, ?y4_2⟩) (by assumption) ?r4_2
    case y4_2 => intro w hSw; (try dsimp only at hSw); go_simp; try with_reducible rfl
    try simp only [Act.put, List.setIfInBounds_toArray, List.set_cons_zero, List.set_cons_succ]
    refine wpAnyH_take (i := 6) (oi := { dst := some 22, op := Op.load 24 (Operand.tmp 5), type := 24, pos := "law.go:92", after := #[], guard := none }) (v := _) rfl (by kernel_rfl) (by kernel_rfl) (by kernel_rfl) (fun _ _ _ h => h) (yieldsIf_load_mid (by rfl) _ _ rfl _ _ rfl _ _ (by intro w hSw; (try dsimp only at hSw); go_split_ands; assumption) (by assumption) rfl (by first | assumption | (simp only [*]; done))) (by assumption) ?_
    try simp only [Act.put, List.setIfInBounds_toArray, List.set_cons_zero, List.set_cons_succ]
    refine wpAnyH_take (i := 7) (oi := { dst := some 23, op := Op.move (Operand.tmp 1), type := 3, pos := "law.go:92", after := #[], guard := none }) (v := ?v7_3) rfl (by kernel_rfl) (by kernel_rfl) (by kernel_rfl) (fun _ _ _ h => h) (Or.inl ⟨by rfl, ?y7_3⟩) (by assumption) ?r7_3
    case y7_3 => intro w hSw; (try dsimp only at hSw); go_simp; try with_reducible rfl
    try simp only [Act.put, List.setIfInBounds_toArray, List.set_cons_zero, List.set_cons_succ]
    refine wpAnyH_take (i := 8) (oi := { dst := some 24, op := Op.load 24 (Operand.tmp 7), type := 24, pos := "law.go:92", after := #[], guard := none }) (v := _) rfl (by kernel_rfl) (by kernel_rfl) (by kernel_rfl) (fun _ _ _ h => h) (yieldsIf_load_mid (by rfl) _ _ rfl _ _ rfl _ _ (by intro w hSw; (try dsimp only at hSw); go_split_ands; assumption) (by assumption) rfl (by first | assumption | (simp only [*]; done))) (by assumption) ?_
    try simp only [Act.put, List.setIfInBounds_toArray, List.set_cons_zero, List.set_cons_succ]
    refine wpAnyH_take (i := 9) (oi := { dst := some 25, op := Op.move (Operand.tmp 3), type := 3, pos := "law.go:92", after := #[], guard := none }) (v := ?v9_4) rfl (by kernel_rfl) (by kernel_rfl) (by kernel_rfl) (fun _ _ _ h => h) (Or.inl ⟨by rfl, ?y9_4⟩) (by assumption) ?r9_4
    case y9_4 => intro w hSw; (try dsimp only at hSw); go_simp; try with_reducible rfl
    try simp only [Act.put, List.setIfInBounds_toArray, List.set_cons_zero, List.set_cons_succ]
    refine wpAnyH_take (i := 10) (oi := { dst := some 26, op := Op.move (Operand.tmp 4), type := 29, pos := "law.go:92", after := #[], guard := none }) (v := ?v10_5) rfl (by kernel_rfl) (by kernel_rfl) (by kernel_rfl) (fun _ _ _ h => h) (Or.inl ⟨by rfl, ?y10_5⟩) (by assumption) ?r10_5
    case y10_5 => intro w hSw; (try dsimp only at hSw); go_simp; try with_reducible rfl
    try simp only [Act.put, List.setIfInBounds_toArray, List.set_cons_zero, List.set_cons_succ]
    refine wpAnyH_ready (rs := [5]) (by kernel_rfl) (by simp) (AllReadyH.cons (o := { dst := some 21, op := Op.call { callee := Callee.value (Operand.func 38), args := #[Operand.tmp 16, Operand.tmp 17, Operand.tmp 18, Operand.tmp 19, Operand.tmp 20], argTypes := #[24, 3, 24, 3, 29] }, type := 4, pos := "law.go:92", after := #[{ on := 0, ground := Ground.data }, { on := 1, ground := Ground.data }, { on := 2, ground := Ground.data }, { on := 3, ground := Ground.data }, { on := 4, ground := Ground.data }], guard := none }) rfl (fun K hK => ?_) AllReadyH.nil)
    go_simp
    refine (H1.out _ (by rw [hA]; exact hHeld.1.bel)).mono ?_; rintro e w3 ⟨rfl, hb3⟩
    go_wp2_with fail
    refine hK.out _ _ ?_ (fun hHeld => ?_)
    · (try dsimp only); (go_split_ands; (repeat' apply And.intro) <;> first | assumption | exact Mine.call (by assumption) (by assumption) | exact Mine.alloc (by assumption) _ | exact Mine.setCells (by assumption) _ _ _ (by omega) | exact Mine.callN (by assumption) (by assumption) (by omega) | exact Row.belowN (by assumption) (by assumption) (by omega) | exact there_belowN (by assumption) (by assumption) (by omega) | exact rangeAt_below (by assumption) (by assumption) | exact World.rangeAt_alloc (by assumption) _ | exact World.rangeAt_setCells_apart (by assumption) _ _ _ (Or.inl (by omega)) | exact there_below (by assumption) (by assumption) | exact World.there_alloc (by assumption) _ | exact World.there_setCells (by assumption) _ _ _ | exact Row.belowS (by assumption) (by assumption) | exact Row.alloc (by assumption) _ | exact Row.setCells (by assumption) _ _ (by omega) | exact HS.below (by assumption) (by assumption) | exact SB.below (by assumption) (by assumption) | exact HS.alloc (by assumption) _ | exact Box.call (by assumption) (by assumption) | exact Box.alloc (by assumption) _ | exact Box.put (by assumption) _ (by assumption) | exact cell_below (by assumption) (by assumption) | exact Lib.cell?_alloc_some _ (by assumption))
    clear hK K
    try simp only [Act.put, List.setIfInBounds_toArray, List.set_cons_zero, List.set_cons_succ]
    refine wpAnyH_ready (rs := [11]) (by kernel_rfl) (by simp) (AllReadyH.cons (o := { dst := some 27, op := Op.call { callee := Callee.value (Operand.func 39), args := #[Operand.tmp 22, Operand.tmp 23, Operand.tmp 24, Operand.tmp 25, Operand.tmp 26], argTypes := #[24, 3, 24, 3, 29] }, type := 4, pos := "law.go:92", after := #[{ on := 6, ground := Ground.data }, { on := 7, ground := Ground.data }, { on := 8, ground := Ground.data }, { on := 9, ground := Ground.data }, { on := 10, ground := Ground.data }, { on := 5, ground := Ground.chain }], guard := none }) rfl (fun K hK => ?_) AllReadyH.nil)
    go_simp
    refine (H2.out _ (by rw [hA]; exact hHeld.1.bel)).mono ?_; rintro e w4 ⟨rfl, hb4⟩
    go_wp2_with fail
    refine hK.out _ _ ?_ (fun hHeld => ?_)
    · (try dsimp only); (go_split_ands; (repeat' apply And.intro) <;> first | assumption | exact Mine.call (by assumption) (by assumption) | exact Mine.alloc (by assumption) _ | exact Mine.setCells (by assumption) _ _ _ (by omega) | exact Mine.callN (by assumption) (by assumption) (by omega) | exact Row.belowN (by assumption) (by assumption) (by omega) | exact there_belowN (by assumption) (by assumption) (by omega) | exact rangeAt_below (by assumption) (by assumption) | exact World.rangeAt_alloc (by assumption) _ | exact World.rangeAt_setCells_apart (by assumption) _ _ _ (Or.inl (by omega)) | exact there_below (by assumption) (by assumption) | exact World.there_alloc (by assumption) _ | exact World.there_setCells (by assumption) _ _ _ | exact Row.belowS (by assumption) (by assumption) | exact Row.alloc (by assumption) _ | exact Row.setCells (by assumption) _ _ (by omega) | exact HS.below (by assumption) (by assumption) | exact SB.below (by assumption) (by assumption) | exact HS.alloc (by assumption) _ | exact Box.call (by assumption) (by assumption) | exact Box.alloc (by assumption) _ | exact Box.put (by assumption) _ (by assumption) | exact cell_below (by assumption) (by assumption) | exact Lib.cell?_alloc_some _ (by assumption))
    clear hK K
    try simp only [Act.put, List.setIfInBounds_toArray, List.set_cons_zero, List.set_cons_succ]
    refine wpAnyH_take (i := 12) (oi := { dst := some 28, op := Op.binOp BinOp.eql 4 (Operand.tmp 21) (Operand.tmp 27) 4, type := 4, pos := "law.go:92", after := #[{ on := 5, ground := Ground.data }, { on := 11, ground := Ground.data }], guard := none }) (v := ?v12_6) rfl (by kernel_rfl) (by kernel_rfl) (by kernel_rfl) (fun _ _ _ h => h) (Or.inl ⟨by rfl, ?y12_6⟩) (by assumption) ?r12_6
    case y12_6 => intro w hSw; (try dsimp only at hSw); go_simp; try with_reducible rfl
    try simp only [Act.put, List.setIfInBounds_toArray, List.set_cons_zero, List.set_cons_succ]
    refine wpAnyH_take (i := 13) (oi := { dst := some 10, op := Op.assign (Operand.tmp 28), type := 4, pos := "law.go:92", after := #[{ on := 12, ground := Ground.data }, { on := 11, ground := Ground.chain }, { on := 0, ground := Ground.phase }, { on := 1, ground := Ground.phase }, { on := 2, ground := Ground.phase }, { on := 3, ground := Ground.phase }, { on := 4, ground := Ground.phase }, { on := 5, ground := Ground.phase }, { on := 6, ground := Ground.phase }, { on := 7, ground := Ground.phase }, { on := 8, ground := Ground.phase }, { on := 9, ground := Ground.phase }, { on := 10, ground := Ground.phase }, { on := 11, ground := Ground.phase }, { on := 12, ground := Ground.phase }], guard := none }) (v := ?v13_7) rfl (by kernel_rfl) (by kernel_rfl) (by kernel_rfl) (fun _ _ _ h => h) (Or.inl ⟨by rfl, ?y13_7⟩) (by assumption) ?r13_7
    case y13_7 => intro w hSw; (try dsimp only at hSw); go_simp; try with_reducible rfl
    try simp only [Act.put, List.setIfInBounds_toArray, List.set_cons_zero, List.set_cons_succ]
    refine wpAnyH_done (by kernel_rfl) ?_ _
    refine NoPanic.normal ?_
    have hfin := Lib.hid hHeld.1.bel
    clear hHeld m1 p0 p1 hu i0 i1
    go_wp2
    go_ret
    exact ⟨rfl, by rw [hA]; exact hfin.out⟩
  · rw [show decide (ps.length ≤ 20) = false by simp; omega] at hf
    obtain ⟨ar, har⟩ : ∃ ar, enc8 root = ar := ⟨_, rfl⟩
    obtain ⟨al, hal⟩ : ∃ al, enc8 leaf = al := ⟨_, rfl⟩
    rw [har, hal] at hW ⊢
    have HF := Lib.hid hf
    have HM := Lib.hid hm
    have HW := Lib.hid hW
    clear hf hm hW r0 r1 har hal hp hn hi hnb hr hl i0 i1
    go_enter Try.func12, Try.ntmps12
    go_wp2_with fail
    rw [HW.out]
    refine (awake05_any _).mono ?_
    rintro e w1 ⟨rfl, hb1⟩
    have M1 := Lib.hid (HM.out.call hb1)
    clear hb1 HM HW
    go_wp2_with fail
    refine (HF.out _ (by rw [hA]; exact M1.out.bel)).mono ?_
    rintro e w2 ⟨rfl, rfl⟩
    go_wp2
    go_ret
    exact ⟨rfl, by rw [hA]; exact M1.out.bel⟩
end Go.Proofs.Ytkipnhhdlohnfaa

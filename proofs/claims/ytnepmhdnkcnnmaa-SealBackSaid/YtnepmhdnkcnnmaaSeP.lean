/- the reference's Parse. -/
import Derived.RangeFuncNested
import Derived.RangeFuncBound
import Derived.RangeFuncCalls
import Derived.RangeFuncLeaves
import Derived.Shelf.Abstract
import Derived.Shelf.RegionOpen
import Derived.WalkKit
import Derived.OwnWalkIn
import Derived.TacticsInMore
import Derived.LoopNIn
import Derived.LoopIn
import Derived.Outline
import Derived.Lib.Hide
import Derived.Lib.SliceRun
import Derived.IntWalk
import Derived.WalkLawsBesides
import Derived.WalkSpells
import Derived.Laws.BitsAllLaws
import Derived.Lib.ConvBytes
import Derived.Maps.AppendAt
import Derived.Lib.AppendStr
import Derived.Lib.SlBytesConst
import Derived.Laws.AppendOwnNone
import Derived.Laws.OwnMore
import Derived.Laws.BytesArg
import Derived.Deep.RegionHeld3
import Derived.BigQuiet
import Derived.Deep.RegionLaw
import Derived.Deep.QuietTactic
import Derived.Lib.OthersKept
import Derived.Test.YtnepmhdnkcnnmaaProg
import Derived.Deep.DeepFit
import Derived.Deep.RegionHeld3
import Derived.Test.YtnepmhdnkcnnmaaSeO
set_option linter.unusedVariables false
set_option linter.unusedSimpArgs false
namespace Go.Proofs.Ytnepmhdnkcnnmaa
open Go Go.RowKit Go.Shelf

/-- the first i bytes, then noughts -/
def mixL (l : List UInt8) (i : Nat) : List UInt8 := l.take i ++ List.replicate (32 - i) 0
theorem mixL_len (l : List UInt8) (h : l.length = 32) (i : Nat) (hi : i ≤ 32) : (mixL l i).length = 32 := by simp [mixL]; omega
theorem mixL_0 (l : List UInt8) : mixL l 0 = List.replicate 32 0 := by simp [mixL]
theorem mixL_32 (l : List UInt8) (h : l.length = 32) : mixL l 32 = l := by simp [mixL, ← h]
theorem mixL_set (l : List UInt8) (h : l.length = 32) (i : Nat) (hi : i < 32) : (enc8 (mixL l i)).set i (.int .u8 (gb l i)) = enc8 (mixL l (i + 1)) := by
  apply List.ext_getElem?
  intro j
  rw [List.getElem?_set]
  by_cases hj : i = j
  · subst hj
    rw [if_pos rfl, if_pos (by rw [enc8_len, mixL_len l h i (by omega)]; exact hi), enc8_get _ i (by rw [mixL_len l h _ (by omega)]; exact hi)]
    congr 3
    unfold gb mixL
    rw [List.getElem?_append_left (by simp; omega), List.getElem?_take, if_pos (by omega)]
  · rw [if_neg hj]
    unfold enc8 mixL
    rw [List.getElem?_map, List.getElem?_map]
    congr 1
    by_cases h1 : j < i
    · rw [List.getElem?_append_left (by simp; omega), List.getElem?_append_left (by simp; omega), List.getElem?_take, List.getElem?_take, if_pos h1, if_pos (by omega)]
    · rw [List.getElem?_append_right (by simp; omega), List.getElem?_append_right (by simp; omega)]
      simp only [List.length_take, h, List.getElem?_replicate]
      rw [Nat.min_eq_left (by omega), Nat.min_eq_left (by omega)]
      by_cases h2 : j < 32
      · rw [if_pos (by omega), if_pos (by omega)]
      · rw [if_neg (by omega), if_neg (by omega)]
theorem sealC_set_r (s c : Int) (r p : List UInt8) (hr : r.length = 32) (i : Nat) (hi : i < 32) (v : Value) : (sealC s c r p).set (2 + i) v = .int .i64 s :: .int .i64 c :: ((enc8 r).set i v ++ enc8 p) := by
  unfold sealC
  rw [show 2 + i = i + 1 + 1 by omega, List.set_cons_succ, List.set_cons_succ, List.set_append_left _ _ (by rw [enc8_len]; omega)]
theorem sealC_set_p (s c : Int) (r p : List UInt8) (hr : r.length = 32) (i : Nat) (v : Value) : (sealC s c r p).set (34 + i) v = .int .i64 s :: .int .i64 c :: (enc8 r ++ (enc8 p).set i v) := by
  unfold sealC
  rw [show 34 + i = 32 + i + 1 + 1 by omega, List.set_cons_succ, List.set_cons_succ, List.set_append_right _ _ (by rw [enc8_len]; omega), enc8_len, hr, show 32 + i - 32 = i by omega]
theorem sealC_mix (s c : Int) (a b : List UInt8) (ha : a.length = 32) (hb : b.length = 32) (i : Nat) (hi : i < 32) :
    ((sealC s c (mixL a i) (mixL b i)).set (2 + i) (.int .u8 (gb a i))).set (34 + i) (.int .u8 (gb b i)) = sealC s c (mixL a (i + 1)) (mixL b (i + 1)) ∧
    ((sealC s c (mixL a i) (mixL b i)).set (34 + i) (.int .u8 (gb b i))).set (2 + i) (.int .u8 (gb a i)) = sealC s c (mixL a (i + 1)) (mixL b (i + 1)) := by
  have e : ((sealC s c (mixL a i) (mixL b i)).set (2 + i) (.int .u8 (gb a i))).set (34 + i) (.int .u8 (gb b i)) = sealC s c (mixL a (i + 1)) (mixL b (i + 1)) := by
    rw [sealC_set_r s c _ _ (mixL_len a ha i (by omega)) i hi, mixL_set a ha i hi]
    rw [show (Value.int .i64 s :: Value.int .i64 c :: (enc8 (mixL a (i + 1)) ++ enc8 (mixL b i))) = sealC s c (mixL a (i + 1)) (mixL b i) from rfl]
    rw [sealC_set_p s c _ _ (mixL_len a ha (i + 1) (by omega)) i, mixL_set b hb i hi]
    rfl
  exact ⟨e, by rw [List.set_comm _ _ (by omega)]; exact e⟩
theorem sealC_get_r (s c : Int) (r p : List UInt8) (hr : r.length = 32) (i : Nat) (hi : i < 32) : (sealC s c r p)[2 + i]? = some (.int .u8 (gb r i)) := by
  unfold sealC
  rw [show 2 + i = i + 1 + 1 by omega, List.getElem?_cons_succ, List.getElem?_cons_succ, List.getElem?_append_left (by rw [enc8_len]; omega), enc8_get _ _ (by omega)]
theorem sealC_get_p (s c : Int) (r p : List UInt8) (hr : r.length = 32) (hp : p.length = 32) (i : Nat) (hi : i < 32) : (sealC s c r p)[34 + i]? = some (.int .u8 (gb p i)) := by
  unfold sealC
  rw [show 34 + i = 32 + i + 1 + 1 by omega, List.getElem?_cons_succ, List.getElem?_cons_succ, List.getElem?_append_right (by rw [enc8_len]; omega), enc8_len, hr, show 32 + i - 32 = i by omega, enc8_get _ _ (by omega)]

set_option maxRecDepth 100000 in
theorem yields_build_two {ops : Array Oper} {S : World → Prop} {o : Oper} {a : Act} {s c : Int} {sz : List Value} (hw : Region.wanted o (yielded ops a.tmps) = true) (x0 x1 : Operand) (ho : o.op = .build 27 #[(0, x0), (1, x1)])
    (h0 : a.eval x0 = .int .i64 s) (h1 : a.eval x1 = .int .i64 c) (hz : sealC s c (List.replicate 32 0) (List.replicate 32 0) = sz) :
    YieldsIf Try.prog ops S o (.agg sz.toArray) a := .inl ⟨hw, fun w _ => by
  unfold execOp
  simp only [ho, List.map_toArray, List.map_cons, List.map_nil, h0, h1, Sem.run_bind, run_build_two, Result.andThen_ok, Sem.run_pure, hz]⟩

set_option maxHeartbeats 8000000 in
set_option maxRecDepth 100000 in
theorem tparse_in (v : Value) (l : List UInt8) (w : World) (hv : SB w v l) (h72 : l.length = 72) :
    Calls Try.prog 25 #[v] w fun e w' => e = .returned (.tuple #[.agg (parC l).toArray, .int .i64 (parE l)]) ∧ Below w.heap.size w w' := by
  have hv0 := hv
  obtain ⟨A0, c, rfl, hc1, hc2, hcell⟩ := hv.form
  obtain ⟨g, o, rfl, hc⟩ := hcell (by omega)
  have hb8 := hv.cut1 4 68 (c - 4) (by omega) (by omega) rfl
  have e4 : cutA (some ⟨g, o, none⟩) c 4 = some ⟨g, o + 4, none⟩ := by unfold cutA; rw [if_neg (by omega)]; simp [Addr.add_mid]
  rw [e4] at hb8
  have ka := fun w => slice_run1 (some ⟨g, o, none⟩) 72 c 4 (by omega) 4 rfl 68 (c - 4) rfl rfl w
  rw [e4] at ka
  obtain ⟨A, hA⟩ : ∃ A, w.heap.size = A := ⟨_, rfl⟩
  have n1 := fun w' (hb : Below A w w') => number_any _ l w' (by omega) (hv.below (by rw [hA]; exact hb))
  have n2 := fun w' (hb : Below A w w') => number_any _ (l.drop 4) w' (by simp; omega) (hb8.below (by rw [hA]; exact hb))
  rw [numL_drop] at n2
  obtain ⟨s0, hs0⟩ : ∃ s0, numL l 0 = s0 := ⟨_, rfl⟩
  obtain ⟨s1, hs1⟩ : ∃ s1, numL l 4 = s1 := ⟨_, rfl⟩
  simp only [hs0, h72] at n1
  simp only [hs1] at n2
  have hsl := sealC_len (s0 : Int) s1 (List.replicate 32 0) (List.replicate 32 0) (by simp) (by simp)
  have hso := sealC_one (s0 : Int) s1 (List.replicate 32 0) (List.replicate 32 0)
  have hsi := info66 _ hsl
  have hgA : g < A := by rw [← hA]; exact World.block_lt_of_cell? w _ (hc 0 (by omega))
  rw [h72] at hc1 hc hv ⊢
  obtain ⟨sz, hsz⟩ : ∃ a, sealC (s0 : Int) s1 (List.replicate 32 0) (List.replicate 32 0) = a := ⟨_, rfl⟩
  simp only [hsz] at hsl hso hsi
  have r0 : Row (w.alloc (.cells #[.int .i64 0, .int .i64 0, .int .u8 0, .int .u8 0, .int .u8 0, .int .u8 0, .int .u8 0, .int .u8 0, .int .u8 0, .int .u8 0, .int .u8 0, .int .u8 0, .int .u8 0, .int .u8 0, .int .u8 0, .int .u8 0, .int .u8 0, .int .u8 0, .int .u8 0, .int .u8 0, .int .u8 0, .int .u8 0, .int .u8 0, .int .u8 0, .int .u8 0, .int .u8 0, .int .u8 0, .int .u8 0, .int .u8 0, .int .u8 0, .int .u8 0, .int .u8 0, .int .u8 0, .int .u8 0, .int .u8 0, .int .u8 0, .int .u8 0, .int .u8 0, .int .u8 0, .int .u8 0, .int .u8 0, .int .u8 0, .int .u8 0, .int .u8 0, .int .u8 0, .int .u8 0, .int .u8 0, .int .u8 0, .int .u8 0, .int .u8 0, .int .u8 0, .int .u8 0, .int .u8 0, .int .u8 0, .int .u8 0, .int .u8 0, .int .u8 0, .int .u8 0, .int .u8 0, .int .u8 0, .int .u8 0, .int .u8 0, .int .u8 0, .int .u8 0, .int .u8 0, .int .u8 0] 27)) A 27 ZS := by rw [← hA]; exact Row.new w #[.int .i64 0, .int .i64 0, .int .u8 0, .int .u8 0, .int .u8 0, .int .u8 0, .int .u8 0, .int .u8 0, .int .u8 0, .int .u8 0, .int .u8 0, .int .u8 0, .int .u8 0, .int .u8 0, .int .u8 0, .int .u8 0, .int .u8 0, .int .u8 0, .int .u8 0, .int .u8 0, .int .u8 0, .int .u8 0, .int .u8 0, .int .u8 0, .int .u8 0, .int .u8 0, .int .u8 0, .int .u8 0, .int .u8 0, .int .u8 0, .int .u8 0, .int .u8 0, .int .u8 0, .int .u8 0, .int .u8 0, .int .u8 0, .int .u8 0, .int .u8 0, .int .u8 0, .int .u8 0, .int .u8 0, .int .u8 0, .int .u8 0, .int .u8 0, .int .u8 0, .int .u8 0, .int .u8 0, .int .u8 0, .int .u8 0, .int .u8 0, .int .u8 0, .int .u8 0, .int .u8 0, .int .u8 0, .int .u8 0, .int .u8 0, .int .u8 0, .int .u8 0, .int .u8 0, .int .u8 0, .int .u8 0, .int .u8 0, .int .u8 0, .int .u8 0, .int .u8 0, .int .u8 0] 27
  have m0 : Mine A w (w.alloc (.cells #[.int .i64 0, .int .i64 0, .int .u8 0, .int .u8 0, .int .u8 0, .int .u8 0, .int .u8 0, .int .u8 0, .int .u8 0, .int .u8 0, .int .u8 0, .int .u8 0, .int .u8 0, .int .u8 0, .int .u8 0, .int .u8 0, .int .u8 0, .int .u8 0, .int .u8 0, .int .u8 0, .int .u8 0, .int .u8 0, .int .u8 0, .int .u8 0, .int .u8 0, .int .u8 0, .int .u8 0, .int .u8 0, .int .u8 0, .int .u8 0, .int .u8 0, .int .u8 0, .int .u8 0, .int .u8 0, .int .u8 0, .int .u8 0, .int .u8 0, .int .u8 0, .int .u8 0, .int .u8 0, .int .u8 0, .int .u8 0, .int .u8 0, .int .u8 0, .int .u8 0, .int .u8 0, .int .u8 0, .int .u8 0, .int .u8 0, .int .u8 0, .int .u8 0, .int .u8 0, .int .u8 0, .int .u8 0, .int .u8 0, .int .u8 0, .int .u8 0, .int .u8 0, .int .u8 0, .int .u8 0, .int .u8 0, .int .u8 0, .int .u8 0, .int .u8 0, .int .u8 0, .int .u8 0] 27)) := Mine.alloc ⟨by omega, Below.refl _ _⟩ _
  have hok : parOk l = decide (1 ≤ s0 ∧ s0 ≤ 999999) := by unfold parOk; rw [hs0]; simp [h72]
  have hpar : parC l = if parOk l = true then sealC (s0 : Int) s1 ((l.drop 8).take 32) (l.drop 40) else ZS := by unfold parC; rw [hs0, hs1]
  have HC := Lib.hid hc
  have R0 := Lib.hid r0
  have M0 := Lib.hid m0
  have N1 := Lib.hid n1
  have N2 := Lib.hid n2
  have H72 := Lib.hid h72
  have HSZ := Lib.hid hsz
  have HOK := Lib.hid hok
  have HPAR := Lib.hid hpar
  have HSL := Lib.hid hsl
  have HA := Lib.hid hA
  have HSI := Lib.hid hsi
  clear hc hcell hv hv0 hb8 e4 r0 m0 n1 n2 h72 hs0 hs1 hsz hok hpar hA 
  have kz := zeroSeal
  go_enter Try.func25, Try.ntmps25
  go_wp2
  have th1 : ((w.alloc (.cells #[.int .i64 0, .int .i64 0, .int .u8 0, .int .u8 0, .int .u8 0, .int .u8 0, .int .u8 0, .int .u8 0, .int .u8 0, .int .u8 0, .int .u8 0, .int .u8 0, .int .u8 0, .int .u8 0, .int .u8 0, .int .u8 0, .int .u8 0, .int .u8 0, .int .u8 0, .int .u8 0, .int .u8 0, .int .u8 0, .int .u8 0, .int .u8 0, .int .u8 0, .int .u8 0, .int .u8 0, .int .u8 0, .int .u8 0, .int .u8 0, .int .u8 0, .int .u8 0, .int .u8 0, .int .u8 0, .int .u8 0, .int .u8 0, .int .u8 0, .int .u8 0, .int .u8 0, .int .u8 0, .int .u8 0, .int .u8 0, .int .u8 0, .int .u8 0, .int .u8 0, .int .u8 0, .int .u8 0, .int .u8 0, .int .u8 0, .int .u8 0, .int .u8 0, .int .u8 0, .int .u8 0, .int .u8 0, .int .u8 0, .int .u8 0, .int .u8 0, .int .u8 0, .int .u8 0, .int .u8 0, .int .u8 0, .int .u8 0, .int .u8 0, .int .u8 0, .int .u8 0, .int .u8 0] 27)).alloc (.cells #[.int .i64 0, .int .i64 0, .int .u8 0, .int .u8 0, .int .u8 0, .int .u8 0, .int .u8 0, .int .u8 0, .int .u8 0, .int .u8 0, .int .u8 0, .int .u8 0, .int .u8 0, .int .u8 0, .int .u8 0, .int .u8 0, .int .u8 0, .int .u8 0, .int .u8 0, .int .u8 0, .int .u8 0, .int .u8 0, .int .u8 0, .int .u8 0, .int .u8 0, .int .u8 0, .int .u8 0, .int .u8 0, .int .u8 0, .int .u8 0, .int .u8 0, .int .u8 0, .int .u8 0, .int .u8 0, .int .u8 0, .int .u8 0, .int .u8 0, .int .u8 0, .int .u8 0, .int .u8 0, .int .u8 0, .int .u8 0, .int .u8 0, .int .u8 0, .int .u8 0, .int .u8 0, .int .u8 0, .int .u8 0, .int .u8 0, .int .u8 0, .int .u8 0, .int .u8 0, .int .u8 0, .int .u8 0, .int .u8 0, .int .u8 0, .int .u8 0, .int .u8 0, .int .u8 0, .int .u8 0, .int .u8 0, .int .u8 0, .int .u8 0, .int .u8 0, .int .u8 0, .int .u8 0] 27)).there (w.heap.size + 1) 0 66 := by
    have := seal_there (w.alloc (.cells #[.int .i64 0, .int .i64 0, .int .u8 0, .int .u8 0, .int .u8 0, .int .u8 0, .int .u8 0, .int .u8 0, .int .u8 0, .int .u8 0, .int .u8 0, .int .u8 0, .int .u8 0, .int .u8 0, .int .u8 0, .int .u8 0, .int .u8 0, .int .u8 0, .int .u8 0, .int .u8 0, .int .u8 0, .int .u8 0, .int .u8 0, .int .u8 0, .int .u8 0, .int .u8 0, .int .u8 0, .int .u8 0, .int .u8 0, .int .u8 0, .int .u8 0, .int .u8 0, .int .u8 0, .int .u8 0, .int .u8 0, .int .u8 0, .int .u8 0, .int .u8 0, .int .u8 0, .int .u8 0, .int .u8 0, .int .u8 0, .int .u8 0, .int .u8 0, .int .u8 0, .int .u8 0, .int .u8 0, .int .u8 0, .int .u8 0, .int .u8 0, .int .u8 0, .int .u8 0, .int .u8 0, .int .u8 0, .int .u8 0, .int .u8 0, .int .u8 0, .int .u8 0, .int .u8 0, .int .u8 0, .int .u8 0, .int .u8 0, .int .u8 0, .int .u8 0, .int .u8 0, .int .u8 0] 27)); rw [alloc_size] at this; exact this
  have bx1 : Box ((w.alloc (.cells #[.int .i64 0, .int .i64 0, .int .u8 0, .int .u8 0, .int .u8 0, .int .u8 0, .int .u8 0, .int .u8 0, .int .u8 0, .int .u8 0, .int .u8 0, .int .u8 0, .int .u8 0, .int .u8 0, .int .u8 0, .int .u8 0, .int .u8 0, .int .u8 0, .int .u8 0, .int .u8 0, .int .u8 0, .int .u8 0, .int .u8 0, .int .u8 0, .int .u8 0, .int .u8 0, .int .u8 0, .int .u8 0, .int .u8 0, .int .u8 0, .int .u8 0, .int .u8 0, .int .u8 0, .int .u8 0, .int .u8 0, .int .u8 0, .int .u8 0, .int .u8 0, .int .u8 0, .int .u8 0, .int .u8 0, .int .u8 0, .int .u8 0, .int .u8 0, .int .u8 0, .int .u8 0, .int .u8 0, .int .u8 0, .int .u8 0, .int .u8 0, .int .u8 0, .int .u8 0, .int .u8 0, .int .u8 0, .int .u8 0, .int .u8 0, .int .u8 0, .int .u8 0, .int .u8 0, .int .u8 0, .int .u8 0, .int .u8 0, .int .u8 0, .int .u8 0, .int .u8 0, .int .u8 0] 27)).alloc (.cells #[.int .i64 0, .int .i64 0, .int .u8 0, .int .u8 0, .int .u8 0, .int .u8 0, .int .u8 0, .int .u8 0, .int .u8 0, .int .u8 0, .int .u8 0, .int .u8 0, .int .u8 0, .int .u8 0, .int .u8 0, .int .u8 0, .int .u8 0, .int .u8 0, .int .u8 0, .int .u8 0, .int .u8 0, .int .u8 0, .int .u8 0, .int .u8 0, .int .u8 0, .int .u8 0, .int .u8 0, .int .u8 0, .int .u8 0, .int .u8 0, .int .u8 0, .int .u8 0, .int .u8 0, .int .u8 0, .int .u8 0, .int .u8 0, .int .u8 0, .int .u8 0, .int .u8 0, .int .u8 0, .int .u8 0, .int .u8 0, .int .u8 0, .int .u8 0, .int .u8 0, .int .u8 0, .int .u8 0, .int .u8 0, .int .u8 0, .int .u8 0, .int .u8 0, .int .u8 0, .int .u8 0, .int .u8 0, .int .u8 0, .int .u8 0, .int .u8 0, .int .u8 0, .int .u8 0, .int .u8 0, .int .u8 0, .int .u8 0, .int .u8 0, .int .u8 0, .int .u8 0, .int .u8 0] 27)) (w.heap.size + 1) := by
    have := box_new (w.alloc (.cells #[.int .i64 0, .int .i64 0, .int .u8 0, .int .u8 0, .int .u8 0, .int .u8 0, .int .u8 0, .int .u8 0, .int .u8 0, .int .u8 0, .int .u8 0, .int .u8 0, .int .u8 0, .int .u8 0, .int .u8 0, .int .u8 0, .int .u8 0, .int .u8 0, .int .u8 0, .int .u8 0, .int .u8 0, .int .u8 0, .int .u8 0, .int .u8 0, .int .u8 0, .int .u8 0, .int .u8 0, .int .u8 0, .int .u8 0, .int .u8 0, .int .u8 0, .int .u8 0, .int .u8 0, .int .u8 0, .int .u8 0, .int .u8 0, .int .u8 0, .int .u8 0, .int .u8 0, .int .u8 0, .int .u8 0, .int .u8 0, .int .u8 0, .int .u8 0, .int .u8 0, .int .u8 0, .int .u8 0, .int .u8 0, .int .u8 0, .int .u8 0, .int .u8 0, .int .u8 0, .int .u8 0, .int .u8 0, .int .u8 0, .int .u8 0, .int .u8 0, .int .u8 0, .int .u8 0, .int .u8 0, .int .u8 0, .int .u8 0, .int .u8 0, .int .u8 0, .int .u8 0, .int .u8 0] 27)); rw [alloc_size] at this; exact this
  have TH1 := Lib.hid th1
  have BX1 := Lib.hid bx1
  clear th1 bx1
  refine wp_region_noPanic ?_
  refine wp_region_held_drew (S := (fun w' => Mine A w w' ∧ Row w' A 27 ZS)) (by kernel_rfl) ?_ (fun hHeld => ?_)
  · exact ⟨⟨M0.out.le, M0.out.bel.drew⟩, R0.out⟩
  refine wpAnyH_take (i := 0) (oi := { dst := some 10, op := Op.move (Operand.tmp 0), type := 34, pos := "ref.go:41", after := #[], guard := none }) (v := ?v0_0) rfl (by kernel_rfl) (by kernel_rfl) (by kernel_rfl) (fun _ _ _ h => h) (Or.inl ⟨by rfl, ?y0_0⟩) (by assumption) ?r0_0
  case y0_0 => intro w hSw; (try dsimp only at hSw); go_simp; try with_reducible rfl
  try simp only [Act.put, List.setIfInBounds_toArray, List.set_cons_zero, List.set_cons_succ]
  refine wpAnyH_take (i := 2) (oi := { dst := some 12, op := Op.move (Operand.tmp 0), type := 34, pos := "ref.go:41", after := #[], guard := none }) (v := ?v2_1) rfl (by kernel_rfl) (by kernel_rfl) (by kernel_rfl) (fun _ _ _ h => h) (Or.inl ⟨by rfl, ?y2_1⟩) (by assumption) ?r2_1
  case y2_1 => intro w hSw; (try dsimp only at hSw); go_simp; try with_reducible rfl
  try simp only [Act.put, List.setIfInBounds_toArray, List.set_cons_zero, List.set_cons_succ]
  refine wpAnyH_take (i := 3) (oi := { dst := some 13, op := Op.slice 34 (Operand.tmp 12) (some (Operand.const (Value.int IntKind.i64 4))) none none, type := 34, pos := "ref.go:41", after := #[{ on := 2, ground := Ground.data }], guard := none }) (v := ?v3_2) rfl (by kernel_rfl) (by kernel_rfl) (by kernel_rfl) (fun _ _ _ h => h) (Or.inl ⟨by rfl, ?y3_2⟩) (by assumption) ?r3_2
  case y3_2 => intro w hSw; (try dsimp only at hSw); go_simp; try with_reducible rfl
  try simp only [Act.put, List.setIfInBounds_toArray, List.set_cons_zero, List.set_cons_succ]
  refine wpAnyH_ready (rs := [1, 6]) (by kernel_rfl) (by simp) (AllReadyH.cons (o := { dst := some 11, op := Op.call { callee := Callee.value (Operand.func 33), args := #[Operand.tmp 10], argTypes := #[34] }, type := 3, pos := "ref.go:41", after := #[{ on := 0, ground := Ground.data }], guard := none }) rfl (fun K hK => ?_) (AllReadyH.cons (o := { dst := some 4, op := Op.alloc 27, type := 0, pos := "ref.go:41", after := #[], guard := none }) rfl (fun K hK => ?_) (AllReadyH.nil)))
  ·
    go_simp
    refine (N1.out _ (by go_split_ands; exact Mine.bel (by assumption))).mono ?_; rintro e w2 ⟨rfl, hbw2⟩
    go_wp2_with fail
    refine hK.out _ _ ?_ (fun hHeld => ?_)
    · (try dsimp only); (go_split_ands; (repeat' apply And.intro) <;> first | assumption | exact Mine.call (by assumption) (by assumption) | exact Mine.alloc (by assumption) _ | exact Mine.setCells (by assumption) _ _ _ (by omega) | exact Mine.callN (by assumption) (by assumption) (by omega) | exact Row.belowN (by assumption) (by assumption) (by omega) | exact there_belowN (by assumption) (by assumption) (by omega) | exact rangeAt_below (by assumption) (by assumption) | exact World.rangeAt_alloc (by assumption) _ | exact World.rangeAt_setCells_apart (by assumption) _ _ _ (Or.inl (by omega)) | exact there_below (by assumption) (by assumption) | exact World.there_alloc (by assumption) _ | exact World.there_setCells (by assumption) _ _ _ | exact Row.belowS (by assumption) (by assumption) | exact Row.alloc (by assumption) _ | exact Row.setCells (by assumption) _ _ (by omega) | exact HS.below (by assumption) (by assumption) | exact SB.below (by assumption) (by assumption) | exact HS.alloc (by assumption) _ | exact Box.call (by assumption) (by assumption) | exact Box.alloc (by assumption) _ | exact Box.put (by assumption) _ (by assumption))
    clear hK K
    try simp only [Act.put, List.setIfInBounds_toArray, List.set_cons_zero, List.set_cons_succ]
    refine wpAnyH_ready (rs := [4, 6]) (by kernel_rfl) (by simp) (AllReadyH.cons (o := { dst := some 14, op := Op.call { callee := Callee.value (Operand.func 33), args := #[Operand.tmp 13], argTypes := #[34] }, type := 3, pos := "ref.go:41", after := #[{ on := 3, ground := Ground.data }, { on := 1, ground := Ground.chain }], guard := none }) rfl (fun K hK => ?_) (AllReadyH.cons (o := { dst := some 4, op := Op.alloc 27, type := 0, pos := "ref.go:41", after := #[], guard := none }) rfl (fun K hK => ?_) (AllReadyH.nil)))
    ·
      go_simp
      refine (N2.out _ (by go_split_ands; exact Mine.bel (by assumption))).mono ?_; rintro e w3 ⟨rfl, hbw3⟩
      go_wp2_with fail
      refine hK.out _ _ ?_ (fun hHeld => ?_)
      · (try dsimp only); (go_split_ands; (repeat' apply And.intro) <;> first | assumption | exact Mine.call (by assumption) (by assumption) | exact Mine.alloc (by assumption) _ | exact Mine.setCells (by assumption) _ _ _ (by omega) | exact Mine.callN (by assumption) (by assumption) (by omega) | exact Row.belowN (by assumption) (by assumption) (by omega) | exact there_belowN (by assumption) (by assumption) (by omega) | exact rangeAt_below (by assumption) (by assumption) | exact World.rangeAt_alloc (by assumption) _ | exact World.rangeAt_setCells_apart (by assumption) _ _ _ (Or.inl (by omega)) | exact there_below (by assumption) (by assumption) | exact World.there_alloc (by assumption) _ | exact World.there_setCells (by assumption) _ _ _ | exact Row.belowS (by assumption) (by assumption) | exact Row.alloc (by assumption) _ | exact Row.setCells (by assumption) _ _ (by omega) | exact HS.below (by assumption) (by assumption) | exact SB.below (by assumption) (by assumption) | exact HS.alloc (by assumption) _ | exact Box.call (by assumption) (by assumption) | exact Box.alloc (by assumption) _ | exact Box.put (by assumption) _ (by assumption))
      clear hK K
      try simp only [Act.put, List.setIfInBounds_toArray, List.set_cons_zero, List.set_cons_succ]
      refine wpAnyH_take (i := 5) (oi := { dst := some 15, op := Op.build 27 #[(0, Operand.tmp 11), (1, Operand.tmp 14)], type := 27, pos := "ref.go:41", after := #[{ on := 1, ground := Ground.data }, { on := 4, ground := Ground.data }], guard := none }) (v := _) rfl (by kernel_rfl) (by kernel_rfl) (by kernel_rfl) (fun _ _ _ h => h) (yields_build_two rfl _ _ rfl rfl rfl HSZ.out) (by assumption) ?_
      try simp only [Act.put, List.setIfInBounds_toArray, List.set_cons_zero, List.set_cons_succ]
      refine wpAnyH_ready (rs := [6]) (by kernel_rfl) (by simp) (AllReadyH.cons (o := { dst := some 4, op := Op.alloc 27, type := 0, pos := "ref.go:41", after := #[], guard := none }) rfl (fun K hK => ?_) (AllReadyH.nil))
      go_simp
      have hOld := hHeld
      refine hK.out _ _ ?_ (fun hHeld => ?_)
      · (try dsimp only); (go_split_ands; (repeat' apply And.intro) <;> first | assumption | exact Mine.call (by assumption) (by assumption) | exact Mine.alloc (by assumption) _ | exact Mine.setCells (by assumption) _ _ _ (by omega) | exact Mine.callN (by assumption) (by assumption) (by omega) | exact Row.belowN (by assumption) (by assumption) (by omega) | exact there_belowN (by assumption) (by assumption) (by omega) | exact rangeAt_below (by assumption) (by assumption) | exact World.rangeAt_alloc (by assumption) _ | exact World.rangeAt_setCells_apart (by assumption) _ _ _ (Or.inl (by omega)) | exact there_below (by assumption) (by assumption) | exact World.there_alloc (by assumption) _ | exact World.there_setCells (by assumption) _ _ _ | exact Row.belowS (by assumption) (by assumption) | exact Row.alloc (by assumption) _ | exact Row.setCells (by assumption) _ _ (by omega) | exact HS.below (by assumption) (by assumption) | exact SB.below (by assumption) (by assumption) | exact HS.alloc (by assumption) _ | exact Box.call (by assumption) (by assumption) | exact Box.alloc (by assumption) _ | exact Box.put (by assumption) _ (by assumption))
      clear hK K
      try simp only [Act.put, List.setIfInBounds_toArray, List.set_cons_zero, List.set_cons_succ]
      obtain ⟨B, hB⟩ : ∃ B, w3.heap.size = B := ⟨_, rfl⟩
      try rw [hB]
      refine wpAnyH_with (E := fun w' => w'.there B 0 66 ∧ A + 1 ≤ B ∧ Box w' B) (by (try dsimp only); refine ⟨?_, ?_, ?_⟩ <;> rw [← hB] <;> first | exact seal_there _ | exact (World.there_drew _ _ _ _).2 (seal_there _) | assumption | (first | exact TH1.out | exact (World.there_drew _ _ _ _).2 TH1.out | exact BX1.out | exact box_new _ | (have hq := R0.out.lt; simp at hq; omega) | (go_split_ands; exact Row.lt (by assumption)))) hHeld (fun hHeld => ?_)
      try dsimp only at hHeld
      have hl66 := HSL.out
      have hPre := hHeld
      refine wpAnyH_ready (rs := [7]) (by kernel_rfl) (by simp) (AllReadyH.cons (o := { dst := none, op := Op.store 27 (Operand.tmp 4) (Operand.tmp 15), type := 0, pos := "ref.go:41", after := #[{ on := 6, ground := Ground.data }, { on := 5, ground := Ground.data }, { on := 4, ground := Ground.chain }, { on := 0, ground := Ground.phase }, { on := 1, ground := Ground.phase }, { on := 2, ground := Ground.phase }, { on := 3, ground := Ground.phase }, { on := 4, ground := Ground.phase }, { on := 5, ground := Ground.phase }, { on := 6, ground := Ground.phase }], guard := none }) rfl (fun K hK => ?_) AllReadyH.nil)
      rw [if_pos (by rfl)]
      refine wp_store_mid _ _ _ rfl _ _ (List.toArray _) rfl rfl (by go_split_ands; first | assumption | (simp only [List.size_toArray, *] <;> assumption)) (by first | assumption | (simp only [List.size_toArray] <;> assumption) | (simp only [List.size_toArray, *]; done)) (all_oneCell_toArray (by assumption)) ?_
      simp only [Act.put, List.setIfInBounds_toArray, List.set_cons_zero, List.set_cons_succ, List.toList_toArray]
      refine hK.out _ _ ?_ (fun hHeld => ?_)
      · (try dsimp only); (go_split_ands; (repeat' apply And.intro) <;> first | assumption | exact Mine.call (by assumption) (by assumption) | exact Mine.alloc (by assumption) _ | exact Mine.setCells (by assumption) _ _ _ (by omega) | exact Mine.callN (by assumption) (by assumption) (by omega) | exact Row.belowN (by assumption) (by assumption) (by omega) | exact there_belowN (by assumption) (by assumption) (by omega) | exact rangeAt_below (by assumption) (by assumption) | exact World.rangeAt_alloc (by assumption) _ | exact World.rangeAt_setCells_apart (by assumption) _ _ _ (Or.inl (by omega)) | exact there_below (by assumption) (by assumption) | exact World.there_alloc (by assumption) _ | exact World.there_setCells (by assumption) _ _ _ | exact Row.belowS (by assumption) (by assumption) | exact Row.alloc (by assumption) _ | exact Row.setCells (by assumption) _ _ (by omega) | exact HS.below (by assumption) (by assumption) | exact SB.below (by assumption) (by assumption) | exact HS.alloc (by assumption) _ | exact Box.call (by assumption) (by assumption) | exact Box.alloc (by assumption) _ | exact Box.put (by assumption) _ (by assumption))
      clear hK K
      refine wpAnyH_done (by kernel_rfl) ?_ _
      refine NoPanic.normal ?_
      rw [HA.out]
      have hAB : A + 1 ≤ B := hHeld.2.2.1
      have hrs := World.rangeAt_setCells_same _ B 0 sz (by rw [HSL.out]; exact hPre.2.1)
      have RB0 := Lib.hid (Box.row hHeld.2.2.2 hrs HSL.out)
      have RA0 := Lib.hid hHeld.1.2
      have M2 := Lib.hid hHeld.1.1
      clear hrs hHeld hPre hOld
      generalize World.setCells _ B 0 sz = W at RA0 RB0 M2 ⊢
      clear hsl hso hsi ka N1 N2 HSL HSI R0 M0 TH1 BX1
      go_wp2
      go_loopw [5] (fun x wr => ∃ i : Nat, (x = .int .i64 (i : Int) ∧ i ≤ 32) ∧ Row wr A 27 ZS ∧ Row wr B 27 (sealC s0 s1 (mixL ((l.drop 8).take 32) i) (mixL (l.drop 40) i)) ∧ Mine A w wr) (fun x _ => 32 - (intOf x).toNat)
      case atStart => exact ⟨0, ⟨rfl, by omega⟩, RA0.out, by rw [mixL_0, mixL_0, HSZ.out]; exact RB0.out, M2.out⟩
      case round =>
        clear RA0 RB0 M2
        obtain ⟨i, ⟨rfl, hi⟩, ra, rb, mm⟩ := hrel
        have hr32 : ((l.drop 8).take 32).length = 32 := by simp [H72.out]
        have hp32 : (l.drop 40).length = 32 := by simp [H72.out]
        by_cases hlt : i < 32
        · have c0 : wr.cell? ⟨g, o + (8 + i), none⟩ = some (.int .u8 (gb ((l.drop 8).take 32) i)) := by
            rw [gb_take _ _ _ hlt, gb_drop]; exact (mm.bel.cell (p := ⟨g, o + (8 + i), none⟩) hgA).trans (HC.out (8 + i) (by omega))
          have c1 : wr.cell? ⟨g, o + (40 + i), none⟩ = some (.int .u8 (gb (l.drop 40) i)) := by
            rw [gb_drop]; exact (mm.bel.cell (p := ⟨g, o + (40 + i), none⟩) hgA).trans (HC.out (40 + i) (by omega))
          have c2 : wr.cell? ⟨B, 2 + i, none⟩ = some (.int .u8 (gb (mixL ((l.drop 8).take 32) i) i)) := by rw [rb.cell (2 + i), sealC_get_r _ _ _ _ (mixL_len _ hr32 _ hi) i hlt]
          have c3 : wr.cell? ⟨B, 34 + i, none⟩ = some (.int .u8 (gb (mixL (l.drop 40) i) i)) := by rw [rb.cell (34 + i), sealC_get_p _ _ _ _ (mixL_len _ hr32 _ hi) (mixL_len _ hp32 _ hi) i hlt]
          have f2 : wr.frozen? ⟨B, 2 + i, none⟩ = false := rb.frozen _
          have f3 : wr.frozen? ⟨B, 34 + i, none⟩ = false := rb.frozen _
          have x8 : IntKind.i64.wrap (8 + (i : Int)) = 8 + (i : Int) := IntWalk.i64_in _ (by omega)
          have x40 : IntKind.i64.wrap (40 + (i : Int)) = 40 + (i : Int) := IntWalk.i64_in _ (by omega)
          have y8 : (8 + (i : Int)).toNat = 8 + i := by omega
          have y40 : (40 + (i : Int)).toNat = 40 + i := by omega
          have z8 : (0 : Int) ≤ 8 + (i : Int) := by omega
          have z40 : (0 : Int) ≤ 40 + (i : Int) := by omega
          have u8' : 8 + (i : Int) < 72 := by omega
          have u40 : 40 + (i : Int) < 72 := by omega
          have un8 : 8 + i < 72 := by omega
          have un40 : 40 + i < 72 := by omega
          have hi32 : (i : Int) < 32 := by omega
          have hne : ¬ g = B := by omega
          have hne' : ¬ B = g := by omega
          obtain ⟨hm1, hm2⟩ := sealC_mix s0 s1 _ _ hr32 hp32 i hlt
          have q1 := (rb.set (2 + i) (.int .u8 (gb ((l.drop 8).take 32) i))).set (34 + i) (.int .u8 (gb (l.drop 40) i))
          have q2 := (rb.set (34 + i) (.int .u8 (gb (l.drop 40) i))).set (2 + i) (.int .u8 (gb ((l.drop 8).take 32) i))
          rw [hm1] at q1
          rw [hm2] at q2
          obtain ⟨b0, e0⟩ : ∃ b, gb ((l.drop 8).take 32) i = b := ⟨_, rfl⟩
          obtain ⟨b1, e1⟩ : ∃ b, gb (l.drop 40) i = b := ⟨_, rfl⟩
          simp only [e0] at c0 q1 q2
          simp only [e1] at c1 q1 q2
          have a1 := (ra.other ⟨B, 2 + i, none⟩ (.int .u8 (b0 : Int)) (by simp; omega)).other ⟨B, 34 + i, none⟩ (.int .u8 (b1 : Int)) (by simp; omega)
          have a2 := (ra.other ⟨B, 34 + i, none⟩ (.int .u8 (b1 : Int)) (by simp; omega)).other ⟨B, 2 + i, none⟩ (.int .u8 (b0 : Int)) (by simp; omega)
          have k1 := (mm.put ⟨B, 2 + i, none⟩ (.int .u8 (b0 : Int)) (by simp; omega)).put ⟨B, 34 + i, none⟩ (.int .u8 (b1 : Int)) (by simp; omega)
          have k2 := (mm.put ⟨B, 34 + i, none⟩ (.int .u8 (b1 : Int)) (by simp; omega)).put ⟨B, 2 + i, none⟩ (.int .u8 (b0 : Int)) (by simp; omega)
          have Q1 := Lib.hid q1
          have Q2 := Lib.hid q2
          have A1 := Lib.hid a1
          have A2 := Lib.hid a2
          have K1 := Lib.hid k1
          have K2 := Lib.hid k2
          clear q1 q2 a1 a2 k1 k2 hm1 hm2 e0 e1 ra rb mm hr32 hp32
          go_wp2_with fail
          go_region_held3 (fun w' => w'.cell? ⟨g, o + (8 + i), none⟩ = some (.int .u8 b0) ∧ w'.cell? ⟨g, o + (40 + i), none⟩ = some (.int .u8 b1)) (go_keep) (fail)
          all_goals
            clear c0 c1 c2 c3 f2 f3
            go_wp2
            go_roundw
            case rel => exact ⟨i + 1, ⟨by go_num, by omega⟩, (by first | exact A1.out | exact A2.out), (by first | exact Q1.out | exact Q2.out), (by first | exact ⟨K1.out.le, K1.out.bel.drew⟩ | exact ⟨K2.out.le, K2.out.bel.drew⟩)⟩
            case measure => simp [intOf]; omega
        · obtain rfl : i = 32 := by omega
          rw [mixL_32 _ hr32, mixL_32 _ hp32] at rb
          have hpar := HPAR.out
          have hpe : parE l = if parOk l = true then 0 else 60 := rfl
          have hsl := sealC_len (s0 : Int) (s1 : Int) _ _ hr32 hp32
          have hso := all_oneCell_toArray (sealC_one (s0 : Int) (s1 : Int) ((l.drop 8).take 32) (l.drop 40))
          have hsi := info66 _ hsl
          have c0 : wr.cell? ⟨B, 0, none⟩ = some (.int .i64 (s0 : Int)) := by rw [rb.cell 0]; rfl
          obtain ⟨sc, hsc⟩ : ∃ a, sealC (s0 : Int) (s1 : Int) ((l.drop 8).take 32) (l.drop 40) = a := ⟨_, rfl⟩
          rw [hsc] at hpar hsl hsi hso rb
          have HSL := Lib.hid hsl
          have HSO := Lib.hid hso
          have HSI := Lib.hid hsi
          have RA := Lib.hid ra
          have RB := Lib.hid rb
          have RZ := Lib.hid (ra.setRow ZS)
          have RP := Lib.hid (ra.setRow sc)
          have BP := Lib.hid (below_setRow mm.bel (Nat.le_refl A) sc.toArray)
          have BZ := Lib.hid (below_setRow mm.bel (Nat.le_refl A) ZS.toArray)
          have HSC := Lib.hid hsc
          clear ra rb mm hsl hso hsi hr32 hp32 hi hlt hsc HPAR HSZ
          by_cases hlow : s0 < 1
          · have hok' : parOk l = false := by rw [HOK.out]; simp; omega
            rw [hok', if_neg (by decide)] at hpar hpe
            have HP := Lib.hid hpar
            have HE := Lib.hid hpe
            have d1 : decide (s0 < 1) = true := by simpa using hlow
            have d2 : decide ((s0 : Int) < 1) = true := by simp; omega
            clear hpar hpe hok'
            go_wp2_with (first | (refine RA.out.store (m := ZS) rfl 27 (.tmp 2) (.tmp 44) rfl rfl rfl (by kernel_rfl) rfl (by kernel_rfl) ?_))
            refine bodyPost_ret (v := .tuple #[.agg ZS.toArray, .int .i64 60]) (rangeS_result2 RZ.out.range Try.results25 _ _ rfl rfl Try.underlying27 rfl (by kernel_rfl)) rfl ?_
            exact ⟨by rw [HP.out, HE.out], by rw [HA.out]; exact BZ.out⟩
          · have d1 : decide (s0 < 1) = false := by simpa using hlow
            have d2 : decide ((s0 : Int) < 1) = false := by simp; omega
            by_cases hhigh : 999999 < s0
            · have hok' : parOk l = false := by rw [HOK.out]; simp; omega
              rw [hok', if_neg (by decide)] at hpar hpe
              have HP := Lib.hid hpar
              have HE := Lib.hid hpe
              have d3 : decide (999999 < s0) = true := by simpa using hhigh
              have d4 : decide ((999999 : Int) < (s0 : Int)) = true := by simp; omega
              clear hpar hpe hok'
              go_wp2_with (first | (refine RA.out.store (m := ZS) rfl 27 (.tmp 2) (.tmp 44) rfl rfl rfl (by kernel_rfl) rfl (by kernel_rfl) ?_))
              refine bodyPost_ret (v := .tuple #[.agg ZS.toArray, .int .i64 60]) (rangeS_result2 RZ.out.range Try.results25 _ _ rfl rfl Try.underlying27 rfl (by kernel_rfl)) rfl ?_
              exact ⟨by rw [HP.out, HE.out], by rw [HA.out]; exact BZ.out⟩
            · have hok' : parOk l = true := by rw [HOK.out]; simp; omega
              rw [hok', if_pos rfl] at hpar hpe
              have HP := Lib.hid hpar
              have HE := Lib.hid hpe
              have d3 : decide (999999 < s0) = false := by simpa using hhigh
              have d4 : decide ((999999 : Int) < (s0 : Int)) = false := by simp; omega
              clear hpar hpe hok'
              go_wp2_with (first
                | (refine RB.out.sload rfl (.tmp 4) rfl rfl HSI.out ?_)
                | (refine RA.out.store (m := sc) rfl 27 (.tmp 2) (.tmp 45) rfl rfl rfl HSI.out (by rw [HSL.out]; decide) HSO.out ?_))
              refine bodyPost_ret (v := .tuple #[.agg sc.toArray, .int .i64 0]) (rangeS_result2 RP.out.range Try.results25 _ _ rfl rfl Try.underlying27 rfl HSI.out) rfl ?_
              exact ⟨by rw [HP.out, HE.out], by rw [HA.out]; exact BP.out⟩
    ·
      go_simp
      have hOld := hHeld
      refine hK.out _ _ ?_ (fun hHeld => ?_)
      · (try dsimp only); (go_split_ands; (repeat' apply And.intro) <;> first | assumption | exact Mine.call (by assumption) (by assumption) | exact Mine.alloc (by assumption) _ | exact Mine.setCells (by assumption) _ _ _ (by omega) | exact Mine.callN (by assumption) (by assumption) (by omega) | exact Row.belowN (by assumption) (by assumption) (by omega) | exact there_belowN (by assumption) (by assumption) (by omega) | exact rangeAt_below (by assumption) (by assumption) | exact World.rangeAt_alloc (by assumption) _ | exact World.rangeAt_setCells_apart (by assumption) _ _ _ (Or.inl (by omega)) | exact there_below (by assumption) (by assumption) | exact World.there_alloc (by assumption) _ | exact World.there_setCells (by assumption) _ _ _ | exact Row.belowS (by assumption) (by assumption) | exact Row.alloc (by assumption) _ | exact Row.setCells (by assumption) _ _ (by omega) | exact HS.below (by assumption) (by assumption) | exact SB.below (by assumption) (by assumption) | exact HS.alloc (by assumption) _ | exact Box.call (by assumption) (by assumption) | exact Box.alloc (by assumption) _ | exact Box.put (by assumption) _ (by assumption))
      clear hK K
      try simp only [Act.put, List.setIfInBounds_toArray, List.set_cons_zero, List.set_cons_succ]
      obtain ⟨B, hB⟩ : ∃ B, w2.heap.size = B := ⟨_, rfl⟩
      try rw [hB]
      refine wpAnyH_with (E := fun w' => w'.there B 0 66 ∧ A + 1 ≤ B ∧ Box w' B) (by (try dsimp only); refine ⟨?_, ?_, ?_⟩ <;> rw [← hB] <;> first | exact seal_there _ | exact (World.there_drew _ _ _ _).2 (seal_there _) | assumption | (first | exact TH1.out | exact (World.there_drew _ _ _ _).2 TH1.out | exact BX1.out | exact box_new _ | (have hq := R0.out.lt; simp at hq; omega) | (go_split_ands; exact Row.lt (by assumption)))) hHeld (fun hHeld => ?_)
      try dsimp only at hHeld
      refine wpAnyH_ready (rs := [4]) (by kernel_rfl) (by simp) (AllReadyH.cons (o := { dst := some 14, op := Op.call { callee := Callee.value (Operand.func 33), args := #[Operand.tmp 13], argTypes := #[34] }, type := 3, pos := "ref.go:41", after := #[{ on := 3, ground := Ground.data }, { on := 1, ground := Ground.chain }], guard := none }) rfl (fun K hK => ?_) AllReadyH.nil)
      go_simp
      refine (N2.out _ (by go_split_ands; exact Mine.bel (by assumption))).mono ?_; rintro e w3 ⟨rfl, hbw3⟩
      go_wp2_with fail
      refine hK.out _ _ ?_ (fun hHeld => ?_)
      · (try dsimp only); (go_split_ands; (repeat' apply And.intro) <;> first | assumption | exact Mine.call (by assumption) (by assumption) | exact Mine.alloc (by assumption) _ | exact Mine.setCells (by assumption) _ _ _ (by omega) | exact Mine.callN (by assumption) (by assumption) (by omega) | exact Row.belowN (by assumption) (by assumption) (by omega) | exact there_belowN (by assumption) (by assumption) (by omega) | exact rangeAt_below (by assumption) (by assumption) | exact World.rangeAt_alloc (by assumption) _ | exact World.rangeAt_setCells_apart (by assumption) _ _ _ (Or.inl (by omega)) | exact there_below (by assumption) (by assumption) | exact World.there_alloc (by assumption) _ | exact World.there_setCells (by assumption) _ _ _ | exact Row.belowS (by assumption) (by assumption) | exact Row.alloc (by assumption) _ | exact Row.setCells (by assumption) _ _ (by omega) | exact HS.below (by assumption) (by assumption) | exact SB.below (by assumption) (by assumption) | exact HS.alloc (by assumption) _ | exact Box.call (by assumption) (by assumption) | exact Box.alloc (by assumption) _ | exact Box.put (by assumption) _ (by assumption))
      clear hK K
      try simp only [Act.put, List.setIfInBounds_toArray, List.set_cons_zero, List.set_cons_succ]
      refine wpAnyH_take (i := 5) (oi := { dst := some 15, op := Op.build 27 #[(0, Operand.tmp 11), (1, Operand.tmp 14)], type := 27, pos := "ref.go:41", after := #[{ on := 1, ground := Ground.data }, { on := 4, ground := Ground.data }], guard := none }) (v := _) rfl (by kernel_rfl) (by kernel_rfl) (by kernel_rfl) (fun _ _ _ h => h) (yields_build_two rfl _ _ rfl rfl rfl HSZ.out) (by assumption) ?_
      try simp only [Act.put, List.setIfInBounds_toArray, List.set_cons_zero, List.set_cons_succ]
      have hl66 := HSL.out
      have hPre := hHeld
      refine wpAnyH_ready (rs := [7]) (by kernel_rfl) (by simp) (AllReadyH.cons (o := { dst := none, op := Op.store 27 (Operand.tmp 4) (Operand.tmp 15), type := 0, pos := "ref.go:41", after := #[{ on := 6, ground := Ground.data }, { on := 5, ground := Ground.data }, { on := 4, ground := Ground.chain }, { on := 0, ground := Ground.phase }, { on := 1, ground := Ground.phase }, { on := 2, ground := Ground.phase }, { on := 3, ground := Ground.phase }, { on := 4, ground := Ground.phase }, { on := 5, ground := Ground.phase }, { on := 6, ground := Ground.phase }], guard := none }) rfl (fun K hK => ?_) AllReadyH.nil)
      rw [if_pos (by rfl)]
      refine wp_store_mid _ _ _ rfl _ _ (List.toArray _) rfl rfl (by go_split_ands; first | assumption | (simp only [List.size_toArray, *] <;> assumption)) (by first | assumption | (simp only [List.size_toArray] <;> assumption) | (simp only [List.size_toArray, *]; done)) (all_oneCell_toArray (by assumption)) ?_
      simp only [Act.put, List.setIfInBounds_toArray, List.set_cons_zero, List.set_cons_succ, List.toList_toArray]
      refine hK.out _ _ ?_ (fun hHeld => ?_)
      · (try dsimp only); (go_split_ands; (repeat' apply And.intro) <;> first | assumption | exact Mine.call (by assumption) (by assumption) | exact Mine.alloc (by assumption) _ | exact Mine.setCells (by assumption) _ _ _ (by omega) | exact Mine.callN (by assumption) (by assumption) (by omega) | exact Row.belowN (by assumption) (by assumption) (by omega) | exact there_belowN (by assumption) (by assumption) (by omega) | exact rangeAt_below (by assumption) (by assumption) | exact World.rangeAt_alloc (by assumption) _ | exact World.rangeAt_setCells_apart (by assumption) _ _ _ (Or.inl (by omega)) | exact there_below (by assumption) (by assumption) | exact World.there_alloc (by assumption) _ | exact World.there_setCells (by assumption) _ _ _ | exact Row.belowS (by assumption) (by assumption) | exact Row.alloc (by assumption) _ | exact Row.setCells (by assumption) _ _ (by omega) | exact HS.below (by assumption) (by assumption) | exact SB.below (by assumption) (by assumption) | exact HS.alloc (by assumption) _ | exact Box.call (by assumption) (by assumption) | exact Box.alloc (by assumption) _ | exact Box.put (by assumption) _ (by assumption))
      clear hK K
      refine wpAnyH_done (by kernel_rfl) ?_ _
      refine NoPanic.normal ?_
      rw [HA.out]
      have hAB : A + 1 ≤ B := hHeld.2.2.1
      have hrs := World.rangeAt_setCells_same _ B 0 sz (by rw [HSL.out]; exact hPre.2.1)
      have RB0 := Lib.hid (Box.row hHeld.2.2.2 hrs HSL.out)
      have RA0 := Lib.hid hHeld.1.2
      have M2 := Lib.hid hHeld.1.1
      clear hrs hHeld hPre hOld
      generalize World.setCells _ B 0 sz = W at RA0 RB0 M2 ⊢
      clear hsl hso hsi ka N1 N2 HSL HSI R0 M0 TH1 BX1
      go_wp2
      go_loopw [5] (fun x wr => ∃ i : Nat, (x = .int .i64 (i : Int) ∧ i ≤ 32) ∧ Row wr A 27 ZS ∧ Row wr B 27 (sealC s0 s1 (mixL ((l.drop 8).take 32) i) (mixL (l.drop 40) i)) ∧ Mine A w wr) (fun x _ => 32 - (intOf x).toNat)
      case atStart => exact ⟨0, ⟨rfl, by omega⟩, RA0.out, by rw [mixL_0, mixL_0, HSZ.out]; exact RB0.out, M2.out⟩
      case round =>
        clear RA0 RB0 M2
        obtain ⟨i, ⟨rfl, hi⟩, ra, rb, mm⟩ := hrel
        have hr32 : ((l.drop 8).take 32).length = 32 := by simp [H72.out]
        have hp32 : (l.drop 40).length = 32 := by simp [H72.out]
        by_cases hlt : i < 32
        · have c0 : wr.cell? ⟨g, o + (8 + i), none⟩ = some (.int .u8 (gb ((l.drop 8).take 32) i)) := by
            rw [gb_take _ _ _ hlt, gb_drop]; exact (mm.bel.cell (p := ⟨g, o + (8 + i), none⟩) hgA).trans (HC.out (8 + i) (by omega))
          have c1 : wr.cell? ⟨g, o + (40 + i), none⟩ = some (.int .u8 (gb (l.drop 40) i)) := by
            rw [gb_drop]; exact (mm.bel.cell (p := ⟨g, o + (40 + i), none⟩) hgA).trans (HC.out (40 + i) (by omega))
          have c2 : wr.cell? ⟨B, 2 + i, none⟩ = some (.int .u8 (gb (mixL ((l.drop 8).take 32) i) i)) := by rw [rb.cell (2 + i), sealC_get_r _ _ _ _ (mixL_len _ hr32 _ hi) i hlt]
          have c3 : wr.cell? ⟨B, 34 + i, none⟩ = some (.int .u8 (gb (mixL (l.drop 40) i) i)) := by rw [rb.cell (34 + i), sealC_get_p _ _ _ _ (mixL_len _ hr32 _ hi) (mixL_len _ hp32 _ hi) i hlt]
          have f2 : wr.frozen? ⟨B, 2 + i, none⟩ = false := rb.frozen _
          have f3 : wr.frozen? ⟨B, 34 + i, none⟩ = false := rb.frozen _
          have x8 : IntKind.i64.wrap (8 + (i : Int)) = 8 + (i : Int) := IntWalk.i64_in _ (by omega)
          have x40 : IntKind.i64.wrap (40 + (i : Int)) = 40 + (i : Int) := IntWalk.i64_in _ (by omega)
          have y8 : (8 + (i : Int)).toNat = 8 + i := by omega
          have y40 : (40 + (i : Int)).toNat = 40 + i := by omega
          have z8 : (0 : Int) ≤ 8 + (i : Int) := by omega
          have z40 : (0 : Int) ≤ 40 + (i : Int) := by omega
          have u8' : 8 + (i : Int) < 72 := by omega
          have u40 : 40 + (i : Int) < 72 := by omega
          have un8 : 8 + i < 72 := by omega
          have un40 : 40 + i < 72 := by omega
          have hi32 : (i : Int) < 32 := by omega
          have hne : ¬ g = B := by omega
          have hne' : ¬ B = g := by omega
          obtain ⟨hm1, hm2⟩ := sealC_mix s0 s1 _ _ hr32 hp32 i hlt
          have q1 := (rb.set (2 + i) (.int .u8 (gb ((l.drop 8).take 32) i))).set (34 + i) (.int .u8 (gb (l.drop 40) i))
          have q2 := (rb.set (34 + i) (.int .u8 (gb (l.drop 40) i))).set (2 + i) (.int .u8 (gb ((l.drop 8).take 32) i))
          rw [hm1] at q1
          rw [hm2] at q2
          obtain ⟨b0, e0⟩ : ∃ b, gb ((l.drop 8).take 32) i = b := ⟨_, rfl⟩
          obtain ⟨b1, e1⟩ : ∃ b, gb (l.drop 40) i = b := ⟨_, rfl⟩
          simp only [e0] at c0 q1 q2
          simp only [e1] at c1 q1 q2
          have a1 := (ra.other ⟨B, 2 + i, none⟩ (.int .u8 (b0 : Int)) (by simp; omega)).other ⟨B, 34 + i, none⟩ (.int .u8 (b1 : Int)) (by simp; omega)
          have a2 := (ra.other ⟨B, 34 + i, none⟩ (.int .u8 (b1 : Int)) (by simp; omega)).other ⟨B, 2 + i, none⟩ (.int .u8 (b0 : Int)) (by simp; omega)
          have k1 := (mm.put ⟨B, 2 + i, none⟩ (.int .u8 (b0 : Int)) (by simp; omega)).put ⟨B, 34 + i, none⟩ (.int .u8 (b1 : Int)) (by simp; omega)
          have k2 := (mm.put ⟨B, 34 + i, none⟩ (.int .u8 (b1 : Int)) (by simp; omega)).put ⟨B, 2 + i, none⟩ (.int .u8 (b0 : Int)) (by simp; omega)
          have Q1 := Lib.hid q1
          have Q2 := Lib.hid q2
          have A1 := Lib.hid a1
          have A2 := Lib.hid a2
          have K1 := Lib.hid k1
          have K2 := Lib.hid k2
          clear q1 q2 a1 a2 k1 k2 hm1 hm2 e0 e1 ra rb mm hr32 hp32
          go_wp2_with fail
          go_region_held3 (fun w' => w'.cell? ⟨g, o + (8 + i), none⟩ = some (.int .u8 b0) ∧ w'.cell? ⟨g, o + (40 + i), none⟩ = some (.int .u8 b1)) (go_keep) (fail)
          all_goals
            clear c0 c1 c2 c3 f2 f3
            go_wp2
            go_roundw
            case rel => exact ⟨i + 1, ⟨by go_num, by omega⟩, (by first | exact A1.out | exact A2.out), (by first | exact Q1.out | exact Q2.out), (by first | exact ⟨K1.out.le, K1.out.bel.drew⟩ | exact ⟨K2.out.le, K2.out.bel.drew⟩)⟩
            case measure => simp [intOf]; omega
        · obtain rfl : i = 32 := by omega
          rw [mixL_32 _ hr32, mixL_32 _ hp32] at rb
          have hpar := HPAR.out
          have hpe : parE l = if parOk l = true then 0 else 60 := rfl
          have hsl := sealC_len (s0 : Int) (s1 : Int) _ _ hr32 hp32
          have hso := all_oneCell_toArray (sealC_one (s0 : Int) (s1 : Int) ((l.drop 8).take 32) (l.drop 40))
          have hsi := info66 _ hsl
          have c0 : wr.cell? ⟨B, 0, none⟩ = some (.int .i64 (s0 : Int)) := by rw [rb.cell 0]; rfl
          obtain ⟨sc, hsc⟩ : ∃ a, sealC (s0 : Int) (s1 : Int) ((l.drop 8).take 32) (l.drop 40) = a := ⟨_, rfl⟩
          rw [hsc] at hpar hsl hsi hso rb
          have HSL := Lib.hid hsl
          have HSO := Lib.hid hso
          have HSI := Lib.hid hsi
          have RA := Lib.hid ra
          have RB := Lib.hid rb
          have RZ := Lib.hid (ra.setRow ZS)
          have RP := Lib.hid (ra.setRow sc)
          have BP := Lib.hid (below_setRow mm.bel (Nat.le_refl A) sc.toArray)
          have BZ := Lib.hid (below_setRow mm.bel (Nat.le_refl A) ZS.toArray)
          have HSC := Lib.hid hsc
          clear ra rb mm hsl hso hsi hr32 hp32 hi hlt hsc HPAR HSZ
          by_cases hlow : s0 < 1
          · have hok' : parOk l = false := by rw [HOK.out]; simp; omega
            rw [hok', if_neg (by decide)] at hpar hpe
            have HP := Lib.hid hpar
            have HE := Lib.hid hpe
            have d1 : decide (s0 < 1) = true := by simpa using hlow
            have d2 : decide ((s0 : Int) < 1) = true := by simp; omega
            clear hpar hpe hok'
            go_wp2_with (first | (refine RA.out.store (m := ZS) rfl 27 (.tmp 2) (.tmp 44) rfl rfl rfl (by kernel_rfl) rfl (by kernel_rfl) ?_))
            refine bodyPost_ret (v := .tuple #[.agg ZS.toArray, .int .i64 60]) (rangeS_result2 RZ.out.range Try.results25 _ _ rfl rfl Try.underlying27 rfl (by kernel_rfl)) rfl ?_
            exact ⟨by rw [HP.out, HE.out], by rw [HA.out]; exact BZ.out⟩
          · have d1 : decide (s0 < 1) = false := by simpa using hlow
            have d2 : decide ((s0 : Int) < 1) = false := by simp; omega
            by_cases hhigh : 999999 < s0
            · have hok' : parOk l = false := by rw [HOK.out]; simp; omega
              rw [hok', if_neg (by decide)] at hpar hpe
              have HP := Lib.hid hpar
              have HE := Lib.hid hpe
              have d3 : decide (999999 < s0) = true := by simpa using hhigh
              have d4 : decide ((999999 : Int) < (s0 : Int)) = true := by simp; omega
              clear hpar hpe hok'
              go_wp2_with (first | (refine RA.out.store (m := ZS) rfl 27 (.tmp 2) (.tmp 44) rfl rfl rfl (by kernel_rfl) rfl (by kernel_rfl) ?_))
              refine bodyPost_ret (v := .tuple #[.agg ZS.toArray, .int .i64 60]) (rangeS_result2 RZ.out.range Try.results25 _ _ rfl rfl Try.underlying27 rfl (by kernel_rfl)) rfl ?_
              exact ⟨by rw [HP.out, HE.out], by rw [HA.out]; exact BZ.out⟩
            · have hok' : parOk l = true := by rw [HOK.out]; simp; omega
              rw [hok', if_pos rfl] at hpar hpe
              have HP := Lib.hid hpar
              have HE := Lib.hid hpe
              have d3 : decide (999999 < s0) = false := by simpa using hhigh
              have d4 : decide ((999999 : Int) < (s0 : Int)) = false := by simp; omega
              clear hpar hpe hok'
              go_wp2_with (first
                | (refine RB.out.sload rfl (.tmp 4) rfl rfl HSI.out ?_)
                | (refine RA.out.store (m := sc) rfl 27 (.tmp 2) (.tmp 45) rfl rfl rfl HSI.out (by rw [HSL.out]; decide) HSO.out ?_))
              refine bodyPost_ret (v := .tuple #[.agg sc.toArray, .int .i64 0]) (rangeS_result2 RP.out.range Try.results25 _ _ rfl rfl Try.underlying27 rfl HSI.out) rfl ?_
              exact ⟨by rw [HP.out, HE.out], by rw [HA.out]; exact BP.out⟩
  ·
    go_simp
    have hOld := hHeld
    refine hK.out _ _ ?_ (fun hHeld => ?_)
    · (try dsimp only); (go_split_ands; (repeat' apply And.intro) <;> first | assumption | exact Mine.call (by assumption) (by assumption) | exact Mine.alloc (by assumption) _ | exact Mine.setCells (by assumption) _ _ _ (by omega) | exact Mine.callN (by assumption) (by assumption) (by omega) | exact Row.belowN (by assumption) (by assumption) (by omega) | exact there_belowN (by assumption) (by assumption) (by omega) | exact rangeAt_below (by assumption) (by assumption) | exact World.rangeAt_alloc (by assumption) _ | exact World.rangeAt_setCells_apart (by assumption) _ _ _ (Or.inl (by omega)) | exact there_below (by assumption) (by assumption) | exact World.there_alloc (by assumption) _ | exact World.there_setCells (by assumption) _ _ _ | exact Row.belowS (by assumption) (by assumption) | exact Row.alloc (by assumption) _ | exact Row.setCells (by assumption) _ _ (by omega) | exact HS.below (by assumption) (by assumption) | exact SB.below (by assumption) (by assumption) | exact HS.alloc (by assumption) _ | exact Box.call (by assumption) (by assumption) | exact Box.alloc (by assumption) _ | exact Box.put (by assumption) _ (by assumption))
    clear hK K
    try simp only [Act.put, List.setIfInBounds_toArray, List.set_cons_zero, List.set_cons_succ]
    obtain ⟨B, hB⟩ : ∃ B, w.heap.size + 1 = B := ⟨_, rfl⟩
    try rw [hB]
    refine wpAnyH_with (E := fun w' => w'.there B 0 66 ∧ A + 1 ≤ B ∧ Box w' B) (by (try dsimp only); refine ⟨?_, ?_, ?_⟩ <;> rw [← hB] <;> first | exact seal_there _ | exact (World.there_drew _ _ _ _).2 (seal_there _) | assumption | (first | exact TH1.out | exact (World.there_drew _ _ _ _).2 TH1.out | exact BX1.out | exact box_new _ | (have hq := R0.out.lt; simp at hq; omega) | (go_split_ands; exact Row.lt (by assumption)))) hHeld (fun hHeld => ?_)
    try dsimp only at hHeld
    refine wpAnyH_ready (rs := [1]) (by kernel_rfl) (by simp) (AllReadyH.cons (o := { dst := some 11, op := Op.call { callee := Callee.value (Operand.func 33), args := #[Operand.tmp 10], argTypes := #[34] }, type := 3, pos := "ref.go:41", after := #[{ on := 0, ground := Ground.data }], guard := none }) rfl (fun K hK => ?_) AllReadyH.nil)
    go_simp
    refine (N1.out _ (by go_split_ands; exact Mine.bel (by assumption))).mono ?_; rintro e w2 ⟨rfl, hbw2⟩
    go_wp2_with fail
    refine hK.out _ _ ?_ (fun hHeld => ?_)
    · (try dsimp only); (go_split_ands; (repeat' apply And.intro) <;> first | assumption | exact Mine.call (by assumption) (by assumption) | exact Mine.alloc (by assumption) _ | exact Mine.setCells (by assumption) _ _ _ (by omega) | exact Mine.callN (by assumption) (by assumption) (by omega) | exact Row.belowN (by assumption) (by assumption) (by omega) | exact there_belowN (by assumption) (by assumption) (by omega) | exact rangeAt_below (by assumption) (by assumption) | exact World.rangeAt_alloc (by assumption) _ | exact World.rangeAt_setCells_apart (by assumption) _ _ _ (Or.inl (by omega)) | exact there_below (by assumption) (by assumption) | exact World.there_alloc (by assumption) _ | exact World.there_setCells (by assumption) _ _ _ | exact Row.belowS (by assumption) (by assumption) | exact Row.alloc (by assumption) _ | exact Row.setCells (by assumption) _ _ (by omega) | exact HS.below (by assumption) (by assumption) | exact SB.below (by assumption) (by assumption) | exact HS.alloc (by assumption) _ | exact Box.call (by assumption) (by assumption) | exact Box.alloc (by assumption) _ | exact Box.put (by assumption) _ (by assumption))
    clear hK K
    try simp only [Act.put, List.setIfInBounds_toArray, List.set_cons_zero, List.set_cons_succ]
    refine wpAnyH_ready (rs := [4]) (by kernel_rfl) (by simp) (AllReadyH.cons (o := { dst := some 14, op := Op.call { callee := Callee.value (Operand.func 33), args := #[Operand.tmp 13], argTypes := #[34] }, type := 3, pos := "ref.go:41", after := #[{ on := 3, ground := Ground.data }, { on := 1, ground := Ground.chain }], guard := none }) rfl (fun K hK => ?_) AllReadyH.nil)
    go_simp
    refine (N2.out _ (by go_split_ands; exact Mine.bel (by assumption))).mono ?_; rintro e w3 ⟨rfl, hbw3⟩
    go_wp2_with fail
    refine hK.out _ _ ?_ (fun hHeld => ?_)
    · (try dsimp only); (go_split_ands; (repeat' apply And.intro) <;> first | assumption | exact Mine.call (by assumption) (by assumption) | exact Mine.alloc (by assumption) _ | exact Mine.setCells (by assumption) _ _ _ (by omega) | exact Mine.callN (by assumption) (by assumption) (by omega) | exact Row.belowN (by assumption) (by assumption) (by omega) | exact there_belowN (by assumption) (by assumption) (by omega) | exact rangeAt_below (by assumption) (by assumption) | exact World.rangeAt_alloc (by assumption) _ | exact World.rangeAt_setCells_apart (by assumption) _ _ _ (Or.inl (by omega)) | exact there_below (by assumption) (by assumption) | exact World.there_alloc (by assumption) _ | exact World.there_setCells (by assumption) _ _ _ | exact Row.belowS (by assumption) (by assumption) | exact Row.alloc (by assumption) _ | exact Row.setCells (by assumption) _ _ (by omega) | exact HS.below (by assumption) (by assumption) | exact SB.below (by assumption) (by assumption) | exact HS.alloc (by assumption) _ | exact Box.call (by assumption) (by assumption) | exact Box.alloc (by assumption) _ | exact Box.put (by assumption) _ (by assumption))
    clear hK K
    try simp only [Act.put, List.setIfInBounds_toArray, List.set_cons_zero, List.set_cons_succ]
    refine wpAnyH_take (i := 5) (oi := { dst := some 15, op := Op.build 27 #[(0, Operand.tmp 11), (1, Operand.tmp 14)], type := 27, pos := "ref.go:41", after := #[{ on := 1, ground := Ground.data }, { on := 4, ground := Ground.data }], guard := none }) (v := _) rfl (by kernel_rfl) (by kernel_rfl) (by kernel_rfl) (fun _ _ _ h => h) (yields_build_two rfl _ _ rfl rfl rfl HSZ.out) (by assumption) ?_
    try simp only [Act.put, List.setIfInBounds_toArray, List.set_cons_zero, List.set_cons_succ]
    have hl66 := HSL.out
    have hPre := hHeld
    refine wpAnyH_ready (rs := [7]) (by kernel_rfl) (by simp) (AllReadyH.cons (o := { dst := none, op := Op.store 27 (Operand.tmp 4) (Operand.tmp 15), type := 0, pos := "ref.go:41", after := #[{ on := 6, ground := Ground.data }, { on := 5, ground := Ground.data }, { on := 4, ground := Ground.chain }, { on := 0, ground := Ground.phase }, { on := 1, ground := Ground.phase }, { on := 2, ground := Ground.phase }, { on := 3, ground := Ground.phase }, { on := 4, ground := Ground.phase }, { on := 5, ground := Ground.phase }, { on := 6, ground := Ground.phase }], guard := none }) rfl (fun K hK => ?_) AllReadyH.nil)
    rw [if_pos (by rfl)]
    refine wp_store_mid _ _ _ rfl _ _ (List.toArray _) rfl rfl (by go_split_ands; first | assumption | (simp only [List.size_toArray, *] <;> assumption)) (by first | assumption | (simp only [List.size_toArray] <;> assumption) | (simp only [List.size_toArray, *]; done)) (all_oneCell_toArray (by assumption)) ?_
    simp only [Act.put, List.setIfInBounds_toArray, List.set_cons_zero, List.set_cons_succ, List.toList_toArray]
    refine hK.out _ _ ?_ (fun hHeld => ?_)
    · (try dsimp only); (go_split_ands; (repeat' apply And.intro) <;> first | assumption | exact Mine.call (by assumption) (by assumption) | exact Mine.alloc (by assumption) _ | exact Mine.setCells (by assumption) _ _ _ (by omega) | exact Mine.callN (by assumption) (by assumption) (by omega) | exact Row.belowN (by assumption) (by assumption) (by omega) | exact there_belowN (by assumption) (by assumption) (by omega) | exact rangeAt_below (by assumption) (by assumption) | exact World.rangeAt_alloc (by assumption) _ | exact World.rangeAt_setCells_apart (by assumption) _ _ _ (Or.inl (by omega)) | exact there_below (by assumption) (by assumption) | exact World.there_alloc (by assumption) _ | exact World.there_setCells (by assumption) _ _ _ | exact Row.belowS (by assumption) (by assumption) | exact Row.alloc (by assumption) _ | exact Row.setCells (by assumption) _ _ (by omega) | exact HS.below (by assumption) (by assumption) | exact SB.below (by assumption) (by assumption) | exact HS.alloc (by assumption) _ | exact Box.call (by assumption) (by assumption) | exact Box.alloc (by assumption) _ | exact Box.put (by assumption) _ (by assumption))
    clear hK K
    refine wpAnyH_done (by kernel_rfl) ?_ _
    refine NoPanic.normal ?_
    rw [HA.out]
    have hAB : A + 1 ≤ B := hHeld.2.2.1
    have hrs := World.rangeAt_setCells_same _ B 0 sz (by rw [HSL.out]; exact hPre.2.1)
    have RB0 := Lib.hid (Box.row hHeld.2.2.2 hrs HSL.out)
    have RA0 := Lib.hid hHeld.1.2
    have M2 := Lib.hid hHeld.1.1
    clear hrs hHeld hPre hOld
    generalize World.setCells _ B 0 sz = W at RA0 RB0 M2 ⊢
    clear hsl hso hsi ka N1 N2 HSL HSI R0 M0 TH1 BX1
    go_wp2
    go_loopw [5] (fun x wr => ∃ i : Nat, (x = .int .i64 (i : Int) ∧ i ≤ 32) ∧ Row wr A 27 ZS ∧ Row wr B 27 (sealC s0 s1 (mixL ((l.drop 8).take 32) i) (mixL (l.drop 40) i)) ∧ Mine A w wr) (fun x _ => 32 - (intOf x).toNat)
    case atStart => exact ⟨0, ⟨rfl, by omega⟩, RA0.out, by rw [mixL_0, mixL_0, HSZ.out]; exact RB0.out, M2.out⟩
    case round =>
      clear RA0 RB0 M2
      obtain ⟨i, ⟨rfl, hi⟩, ra, rb, mm⟩ := hrel
      have hr32 : ((l.drop 8).take 32).length = 32 := by simp [H72.out]
      have hp32 : (l.drop 40).length = 32 := by simp [H72.out]
      by_cases hlt : i < 32
      · have c0 : wr.cell? ⟨g, o + (8 + i), none⟩ = some (.int .u8 (gb ((l.drop 8).take 32) i)) := by
          rw [gb_take _ _ _ hlt, gb_drop]; exact (mm.bel.cell (p := ⟨g, o + (8 + i), none⟩) hgA).trans (HC.out (8 + i) (by omega))
        have c1 : wr.cell? ⟨g, o + (40 + i), none⟩ = some (.int .u8 (gb (l.drop 40) i)) := by
          rw [gb_drop]; exact (mm.bel.cell (p := ⟨g, o + (40 + i), none⟩) hgA).trans (HC.out (40 + i) (by omega))
        have c2 : wr.cell? ⟨B, 2 + i, none⟩ = some (.int .u8 (gb (mixL ((l.drop 8).take 32) i) i)) := by rw [rb.cell (2 + i), sealC_get_r _ _ _ _ (mixL_len _ hr32 _ hi) i hlt]
        have c3 : wr.cell? ⟨B, 34 + i, none⟩ = some (.int .u8 (gb (mixL (l.drop 40) i) i)) := by rw [rb.cell (34 + i), sealC_get_p _ _ _ _ (mixL_len _ hr32 _ hi) (mixL_len _ hp32 _ hi) i hlt]
        have f2 : wr.frozen? ⟨B, 2 + i, none⟩ = false := rb.frozen _
        have f3 : wr.frozen? ⟨B, 34 + i, none⟩ = false := rb.frozen _
        have x8 : IntKind.i64.wrap (8 + (i : Int)) = 8 + (i : Int) := IntWalk.i64_in _ (by omega)
        have x40 : IntKind.i64.wrap (40 + (i : Int)) = 40 + (i : Int) := IntWalk.i64_in _ (by omega)
        have y8 : (8 + (i : Int)).toNat = 8 + i := by omega
        have y40 : (40 + (i : Int)).toNat = 40 + i := by omega
        have z8 : (0 : Int) ≤ 8 + (i : Int) := by omega
        have z40 : (0 : Int) ≤ 40 + (i : Int) := by omega
        have u8' : 8 + (i : Int) < 72 := by omega
        have u40 : 40 + (i : Int) < 72 := by omega
        have un8 : 8 + i < 72 := by omega
        have un40 : 40 + i < 72 := by omega
        have hi32 : (i : Int) < 32 := by omega
        have hne : ¬ g = B := by omega
        have hne' : ¬ B = g := by omega
        obtain ⟨hm1, hm2⟩ := sealC_mix s0 s1 _ _ hr32 hp32 i hlt
        have q1 := (rb.set (2 + i) (.int .u8 (gb ((l.drop 8).take 32) i))).set (34 + i) (.int .u8 (gb (l.drop 40) i))
        have q2 := (rb.set (34 + i) (.int .u8 (gb (l.drop 40) i))).set (2 + i) (.int .u8 (gb ((l.drop 8).take 32) i))
        rw [hm1] at q1
        rw [hm2] at q2
        obtain ⟨b0, e0⟩ : ∃ b, gb ((l.drop 8).take 32) i = b := ⟨_, rfl⟩
        obtain ⟨b1, e1⟩ : ∃ b, gb (l.drop 40) i = b := ⟨_, rfl⟩
        simp only [e0] at c0 q1 q2
        simp only [e1] at c1 q1 q2
        have a1 := (ra.other ⟨B, 2 + i, none⟩ (.int .u8 (b0 : Int)) (by simp; omega)).other ⟨B, 34 + i, none⟩ (.int .u8 (b1 : Int)) (by simp; omega)
        have a2 := (ra.other ⟨B, 34 + i, none⟩ (.int .u8 (b1 : Int)) (by simp; omega)).other ⟨B, 2 + i, none⟩ (.int .u8 (b0 : Int)) (by simp; omega)
        have k1 := (mm.put ⟨B, 2 + i, none⟩ (.int .u8 (b0 : Int)) (by simp; omega)).put ⟨B, 34 + i, none⟩ (.int .u8 (b1 : Int)) (by simp; omega)
        have k2 := (mm.put ⟨B, 34 + i, none⟩ (.int .u8 (b1 : Int)) (by simp; omega)).put ⟨B, 2 + i, none⟩ (.int .u8 (b0 : Int)) (by simp; omega)
        have Q1 := Lib.hid q1
        have Q2 := Lib.hid q2
        have A1 := Lib.hid a1
        have A2 := Lib.hid a2
        have K1 := Lib.hid k1
        have K2 := Lib.hid k2
        clear q1 q2 a1 a2 k1 k2 hm1 hm2 e0 e1 ra rb mm hr32 hp32
        go_wp2_with fail
        go_region_held3 (fun w' => w'.cell? ⟨g, o + (8 + i), none⟩ = some (.int .u8 b0) ∧ w'.cell? ⟨g, o + (40 + i), none⟩ = some (.int .u8 b1)) (go_keep) (fail)
        all_goals
          clear c0 c1 c2 c3 f2 f3
          go_wp2
          go_roundw
          case rel => exact ⟨i + 1, ⟨by go_num, by omega⟩, (by first | exact A1.out | exact A2.out), (by first | exact Q1.out | exact Q2.out), (by first | exact ⟨K1.out.le, K1.out.bel.drew⟩ | exact ⟨K2.out.le, K2.out.bel.drew⟩)⟩
          case measure => simp [intOf]; omega
      · obtain rfl : i = 32 := by omega
        rw [mixL_32 _ hr32, mixL_32 _ hp32] at rb
        have hpar := HPAR.out
        have hpe : parE l = if parOk l = true then 0 else 60 := rfl
        have hsl := sealC_len (s0 : Int) (s1 : Int) _ _ hr32 hp32
        have hso := all_oneCell_toArray (sealC_one (s0 : Int) (s1 : Int) ((l.drop 8).take 32) (l.drop 40))
        have hsi := info66 _ hsl
        have c0 : wr.cell? ⟨B, 0, none⟩ = some (.int .i64 (s0 : Int)) := by rw [rb.cell 0]; rfl
        obtain ⟨sc, hsc⟩ : ∃ a, sealC (s0 : Int) (s1 : Int) ((l.drop 8).take 32) (l.drop 40) = a := ⟨_, rfl⟩
        rw [hsc] at hpar hsl hsi hso rb
        have HSL := Lib.hid hsl
        have HSO := Lib.hid hso
        have HSI := Lib.hid hsi
        have RA := Lib.hid ra
        have RB := Lib.hid rb
        have RZ := Lib.hid (ra.setRow ZS)
        have RP := Lib.hid (ra.setRow sc)
        have BP := Lib.hid (below_setRow mm.bel (Nat.le_refl A) sc.toArray)
        have BZ := Lib.hid (below_setRow mm.bel (Nat.le_refl A) ZS.toArray)
        have HSC := Lib.hid hsc
        clear ra rb mm hsl hso hsi hr32 hp32 hi hlt hsc HPAR HSZ
        by_cases hlow : s0 < 1
        · have hok' : parOk l = false := by rw [HOK.out]; simp; omega
          rw [hok', if_neg (by decide)] at hpar hpe
          have HP := Lib.hid hpar
          have HE := Lib.hid hpe
          have d1 : decide (s0 < 1) = true := by simpa using hlow
          have d2 : decide ((s0 : Int) < 1) = true := by simp; omega
          clear hpar hpe hok'
          go_wp2_with (first | (refine RA.out.store (m := ZS) rfl 27 (.tmp 2) (.tmp 44) rfl rfl rfl (by kernel_rfl) rfl (by kernel_rfl) ?_))
          refine bodyPost_ret (v := .tuple #[.agg ZS.toArray, .int .i64 60]) (rangeS_result2 RZ.out.range Try.results25 _ _ rfl rfl Try.underlying27 rfl (by kernel_rfl)) rfl ?_
          exact ⟨by rw [HP.out, HE.out], by rw [HA.out]; exact BZ.out⟩
        · have d1 : decide (s0 < 1) = false := by simpa using hlow
          have d2 : decide ((s0 : Int) < 1) = false := by simp; omega
          by_cases hhigh : 999999 < s0
          · have hok' : parOk l = false := by rw [HOK.out]; simp; omega
            rw [hok', if_neg (by decide)] at hpar hpe
            have HP := Lib.hid hpar
            have HE := Lib.hid hpe
            have d3 : decide (999999 < s0) = true := by simpa using hhigh
            have d4 : decide ((999999 : Int) < (s0 : Int)) = true := by simp; omega
            clear hpar hpe hok'
            go_wp2_with (first | (refine RA.out.store (m := ZS) rfl 27 (.tmp 2) (.tmp 44) rfl rfl rfl (by kernel_rfl) rfl (by kernel_rfl) ?_))
            refine bodyPost_ret (v := .tuple #[.agg ZS.toArray, .int .i64 60]) (rangeS_result2 RZ.out.range Try.results25 _ _ rfl rfl Try.underlying27 rfl (by kernel_rfl)) rfl ?_
            exact ⟨by rw [HP.out, HE.out], by rw [HA.out]; exact BZ.out⟩
          · have hok' : parOk l = true := by rw [HOK.out]; simp; omega
            rw [hok', if_pos rfl] at hpar hpe
            have HP := Lib.hid hpar
            have HE := Lib.hid hpe
            have d3 : decide (999999 < s0) = false := by simpa using hhigh
            have d4 : decide ((999999 : Int) < (s0 : Int)) = false := by simp; omega
            clear hpar hpe hok'
            go_wp2_with (first
              | (refine RB.out.sload rfl (.tmp 4) rfl rfl HSI.out ?_)
              | (refine RA.out.store (m := sc) rfl 27 (.tmp 2) (.tmp 45) rfl rfl rfl HSI.out (by rw [HSL.out]; decide) HSO.out ?_))
            refine bodyPost_ret (v := .tuple #[.agg sc.toArray, .int .i64 0]) (rangeS_result2 RP.out.range Try.results25 _ _ rfl rfl Try.underlying27 rfl HSI.out) rfl ?_
            exact ⟨by rw [HP.out, HE.out], by rw [HA.out]; exact BP.out⟩

set_option maxHeartbeats 1000000 in
set_option maxRecDepth 100000 in
theorem tparse_out (v : Value) (l : List UInt8) (w : World) (hv : SB w v l) (h72 : l.length ≠ 72) :
    Calls Try.prog 25 #[v] w fun e w' => e = .returned (.tuple #[.agg (parC l).toArray, .int .i64 (parE l)]) ∧ Below w.heap.size w w' := by
  have hok : parOk l = false := by unfold parOk; simp [h72]
  have hpar : parC l = ZS := by unfold parC; rw [hok, if_neg (by decide)]
  have hpe : parE l = 60 := by unfold parE; rw [hok, if_neg (by decide)]
  rw [hpar, hpe]
  obtain ⟨A0, c, rfl, -, -, -⟩ := hv.form
  obtain ⟨n, hn⟩ : ∃ n, l.length = n := ⟨_, rfl⟩
  rw [hn] at h72 ⊢
  have d1 : ((n : Int) == 72) = false := by simp; omega
  have d2 : ¬ (n : Int) = 72 := by omega
  obtain ⟨A, hA⟩ : ∃ A, w.heap.size = A := ⟨_, rfl⟩
  have r0 : Row (w.alloc (.cells #[.int .i64 0, .int .i64 0, .int .u8 0, .int .u8 0, .int .u8 0, .int .u8 0, .int .u8 0, .int .u8 0, .int .u8 0, .int .u8 0, .int .u8 0, .int .u8 0, .int .u8 0, .int .u8 0, .int .u8 0, .int .u8 0, .int .u8 0, .int .u8 0, .int .u8 0, .int .u8 0, .int .u8 0, .int .u8 0, .int .u8 0, .int .u8 0, .int .u8 0, .int .u8 0, .int .u8 0, .int .u8 0, .int .u8 0, .int .u8 0, .int .u8 0, .int .u8 0, .int .u8 0, .int .u8 0, .int .u8 0, .int .u8 0, .int .u8 0, .int .u8 0, .int .u8 0, .int .u8 0, .int .u8 0, .int .u8 0, .int .u8 0, .int .u8 0, .int .u8 0, .int .u8 0, .int .u8 0, .int .u8 0, .int .u8 0, .int .u8 0, .int .u8 0, .int .u8 0, .int .u8 0, .int .u8 0, .int .u8 0, .int .u8 0, .int .u8 0, .int .u8 0, .int .u8 0, .int .u8 0, .int .u8 0, .int .u8 0, .int .u8 0, .int .u8 0, .int .u8 0, .int .u8 0] 27)) A 27 ZS := by rw [← hA]; exact Row.new w #[.int .i64 0, .int .i64 0, .int .u8 0, .int .u8 0, .int .u8 0, .int .u8 0, .int .u8 0, .int .u8 0, .int .u8 0, .int .u8 0, .int .u8 0, .int .u8 0, .int .u8 0, .int .u8 0, .int .u8 0, .int .u8 0, .int .u8 0, .int .u8 0, .int .u8 0, .int .u8 0, .int .u8 0, .int .u8 0, .int .u8 0, .int .u8 0, .int .u8 0, .int .u8 0, .int .u8 0, .int .u8 0, .int .u8 0, .int .u8 0, .int .u8 0, .int .u8 0, .int .u8 0, .int .u8 0, .int .u8 0, .int .u8 0, .int .u8 0, .int .u8 0, .int .u8 0, .int .u8 0, .int .u8 0, .int .u8 0, .int .u8 0, .int .u8 0, .int .u8 0, .int .u8 0, .int .u8 0, .int .u8 0, .int .u8 0, .int .u8 0, .int .u8 0, .int .u8 0, .int .u8 0, .int .u8 0, .int .u8 0, .int .u8 0, .int .u8 0, .int .u8 0, .int .u8 0, .int .u8 0, .int .u8 0, .int .u8 0, .int .u8 0, .int .u8 0, .int .u8 0, .int .u8 0] 27
  have m0 : Mine A w (w.alloc (.cells #[.int .i64 0, .int .i64 0, .int .u8 0, .int .u8 0, .int .u8 0, .int .u8 0, .int .u8 0, .int .u8 0, .int .u8 0, .int .u8 0, .int .u8 0, .int .u8 0, .int .u8 0, .int .u8 0, .int .u8 0, .int .u8 0, .int .u8 0, .int .u8 0, .int .u8 0, .int .u8 0, .int .u8 0, .int .u8 0, .int .u8 0, .int .u8 0, .int .u8 0, .int .u8 0, .int .u8 0, .int .u8 0, .int .u8 0, .int .u8 0, .int .u8 0, .int .u8 0, .int .u8 0, .int .u8 0, .int .u8 0, .int .u8 0, .int .u8 0, .int .u8 0, .int .u8 0, .int .u8 0, .int .u8 0, .int .u8 0, .int .u8 0, .int .u8 0, .int .u8 0, .int .u8 0, .int .u8 0, .int .u8 0, .int .u8 0, .int .u8 0, .int .u8 0, .int .u8 0, .int .u8 0, .int .u8 0, .int .u8 0, .int .u8 0, .int .u8 0, .int .u8 0, .int .u8 0, .int .u8 0, .int .u8 0, .int .u8 0, .int .u8 0, .int .u8 0, .int .u8 0, .int .u8 0] 27)) := Mine.alloc ⟨by omega, Below.refl _ _⟩ _
  have R0 := Lib.hid r0
  have RZ := Lib.hid (r0.setRow ZS)
  have BZ := Lib.hid (below_setRow m0.bel (Nat.le_refl A) ZS.toArray)
  clear hv hok hpar hpe hn r0 m0
  have kz := zeroSeal
  go_enter Try.func25, Try.ntmps25
  go_wp2_with (first | (refine R0.out.store (m := ZS) rfl 27 (.tmp 2) (.tmp 9) rfl rfl rfl (by kernel_rfl) rfl (by kernel_rfl) ?_))
  refine bodyPost_ret (v := .tuple #[.agg ZS.toArray, .int .i64 60]) (rangeS_result2 RZ.out.range Try.results25 _ _ rfl rfl Try.underlying27 rfl (by kernel_rfl)) rfl ?_
  exact ⟨rfl, by first | exact BZ.out | (rw [hA]; exact BZ.out)⟩
/-- **the reference's Parse** -/
theorem tparse_any (v : Value) (l : List UInt8) (w : World) (hv : SB w v l) :
    Calls Try.prog 25 #[v] w fun e w' => e = .returned (.tuple #[.agg (parC l).toArray, .int .i64 (parE l)]) ∧ Below w.heap.size w w' := by
  by_cases h : l.length = 72
  · exact tparse_in v l w hv h
  · exact tparse_out v l w hv h
end Go.Proofs.Ytnepmhdnkcnnmaa

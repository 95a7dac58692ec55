/- digest.Show: digits written into a builder; digest.Sum. -/
import Derived.RangeFuncNested
import Derived.RangeFuncBound
import Derived.RangeFuncCalls
import Derived.RangeFuncLeaves
import Derived.Shelf.Abstract
import Derived.Shelf.RegionOpen
import Derived.WalkKit
import Derived.OwnWalkIn
import Derived.TacticsInMore
import Derived.LoopNIn
import Derived.LoopIn
import Derived.Outline
import Derived.Lib.Hide
import Derived.Lib.SliceRun
import Derived.IntWalk
import Derived.WalkLawsBesides
import Derived.WalkSpells
import Derived.Laws.BitsAllLaws
import Derived.Lib.ConvBytes
import Derived.Maps.AppendAt
import Derived.Lib.AppendStr
import Derived.Lib.SlBytesConst
import Derived.Laws.AppendOwnNone
import Derived.Laws.OwnMore
import Derived.Laws.BytesArg
import Derived.Deep.RegionHeld3
import Derived.BigQuiet
import Derived.Deep.RegionLaw
import Derived.Deep.QuietTactic
import Derived.Test.YtkipnhhdlohnfaaProg
import Derived.Deep.DeepFit
import Derived.Test.YtkipnhhdlohnfaaDgF
set_option linter.unusedVariables false
set_option linter.unusedSimpArgs false
namespace Go.Proofs.Ytkipnhhdlohnfaa
open Go Go.RowKit Go.Shelf

abbrev TB : TypeId := 74
abbrev pB (b : Nat) : Value := .pointer (some ⟨b, 0, none⟩)
theorem infoTB : ∃ j, Try.prog.info? TB = some j ∧ j.size = 2 := by
  obtain ⟨j, h1, h2⟩ := Option.map_eq_some_iff.1 (show (Try.prog.info? TB).map (·.size) = some 2 by kernel_rfl)
  exact ⟨j, h1, h2⟩
set_option maxHeartbeats 1000000 in
set_option maxRecDepth 100000 in
theorem check_used (b : Nat) (w : World) (h0 : w.cell? ⟨b, 0, none⟩ = some (pB b)) : Calls Try.prog 66 #[pB b] w fun e w' => e = .returned (.tuple #[]) ∧ w' = w := by
  obtain ⟨j, hj, _⟩ := infoTB
  go_enter Try.func66, Try.ntmps66
  go_wp2
  rw [Lib.run_neq_ptr_same w _ Try.underlying72 hj]
  go_wp2
  go_end0
  exact ⟨rfl, rfl⟩
set_option maxHeartbeats 1000000 in
set_option maxRecDepth 100000 in
theorem check_fresh (b : Nat) (w : World) (h0 : w.cell? ⟨b, 0, none⟩ = some (.pointer none)) (hsh : w.shape? b = some (TB, 2)) (hfz : w.frozen? ⟨b, 0, none⟩ = false) :
    Calls Try.prog 66 #[pB b] w fun e w' => e = .returned (.tuple #[]) ∧ w' = w.setCell ⟨b, 0, none⟩ (pB b) := by
  obtain ⟨j, hj, hjs⟩ := infoTB
  go_enter Try.func66, Try.ntmps66
  go_wp2
  rw [Lib.run_to_unsafe w ⟨b, 0, none⟩ Try.underlying72 Try.underlying94 hj (by rw [hjs]; decide) hsh (Nat.zero_lt_succ 1)]
  simp only [Result.andThen]
  rw [Oper.upon_value]
  go_wp2
  rw [run_callFunc_extern Try.func69 (by kernel_rfl) (by kernel_rfl) (by kernel_rfl) (e := Extern.AbiNoEscape.same) (by kernel_rfl)]
  rw [Lib.run_noEscape]
  simp only [Result.andThen]
  rw [Oper.upon_value]
  go_wp2
  rw [Lib.run_from_unsafe w ⟨b, 0, none⟩ Try.underlying94 Try.underlying72 hj hsh Try.Builder_Extra_169.liesBuilder]
  simp only [Result.andThen]
  rw [Oper.upon_value]
  go_wp2
  go_end0
  exact ⟨rfl, rfl⟩
theorem check_any (B b : Nat) (bs : List Value) (w : World) (h : Lib.IsBuilder TB 5 B b bs w) :
    Calls Try.prog 66 #[pB b] w fun e w' => e = .returned (.tuple #[]) ∧ (Lib.BuilderAt TB 5 B b (pB b) bs w' ∧ Below B w w') := by
  rcases h with h | h
  · refine (check_fresh b w h.cell0 h.shape h.frozen0).mono ?_
    rintro e w' ⟨rfl, rfl⟩
    exact ⟨rfl, h.used _, (Below.refl B w).setCell (p := ⟨b, 0, none⟩) h.1 _⟩
  · refine (check_used b w h.cell0).mono ?_
    rintro e w' ⟨rfl, rfl⟩
    exact ⟨rfl, h, Below.refl B _⟩
set_option maxHeartbeats 1000000 in
set_option maxRecDepth 100000 in
theorem wbyte_any (B b : Nat) (bs : List Value) (c : Int) (w : World) (h : Lib.IsBuilder TB 5 B b bs w) (hlen : bs.length + 1 ≤ 100000) (hBw : B ≤ w.heap.size) :
    Calls Try.prog 51 #[pB b, .int .u8 c] w fun e w' => e = .returned .nilIface ∧ (Lib.BuilderAt TB 5 B b (pB b) (bs ++ [.int .u8 c]) w' ∧ Below B w w') := by
  obtain ⟨i0, hi, hz0, hz1, hz2⟩ := info_parts info5
  go_enter Try.func51, Try.ntmps51
  go_wp2_with fail
  refine (check_any B b bs _ h).mono ?_
  rintro e w1 ⟨rfl, h1, hb1⟩
  have hlt := h1.lt
  obtain ⟨hB, v, hbk, hown, hne⟩ := h1
  have c0 : w1.cell? ⟨b, 0, none⟩ = some (pB b) := by rw [Lib.cell_of_heap hbk]; rfl
  have c1 : w1.cell? ⟨b, 1, none⟩ = some v := by rw [Lib.cell_of_heap hbk]; rfl
  go_wp2_with (at_builtin; refine wpList_append_own _ rfl _ _ 22 rfl B 5 i0 (.int .u8 0) 1 1 Try.underlying22 hi hz0 hz1 hz2 rfl (by decide) _ _ _ rfl (hown.alloc _) ⟨w1.heap.size, 0, none⟩ 1 1 [.int .u8 c] rfl rfl (cell_one_new _ _ _) (by simp [Value.oneCell']) (by unfold maxLen; omega) (by omega) (by have := hb1.size; simp; omega) ?_)
  intro v' w2 hown' hgrow _
  have hb2 : w2.heap[b]? = some (.cells #[pB b, v] TB (0, 0)) := by
    rw [hgrow.block b (by simp; omega) (fun e => hne e.symm), heap_alloc_old w1 _ b hlt]
    exact hbk
  have d0 : w2.cell? ⟨b, 0, none⟩ = some (pB b) := by rw [Lib.cell_of_heap hb2]; rfl
  have d1 : w2.cell? ⟨b, 1, none⟩ = some v := by rw [Lib.cell_of_heap hb2]; rfl
  have f1 : w2.frozen? ⟨b, 1, none⟩ = false := Lib.frozen_of_heap hb2 1
  obtain ⟨g, cap, rfl⟩ : ∃ g cap, v' = .slice (some ⟨g, 0, none⟩) (bs.length + 1) cap := by
    rcases hown'.2 with ⟨_, h0⟩ | ⟨g, cap, cur, hv, _⟩
    · omega
    · exact ⟨g, cap, hv⟩
  go_wp2
  go_ret
  refine ⟨rfl, ?_, ?_⟩
  · exact Lib.BuilderAt.put (T := TB) (e := 5) hB hb2 (bs' := bs ++ [.int .u8 c]) (by simpa using hown') (by decide)
  · exact ((hb1.alloc (by have := hb1.size; omega) _).grown hgrow (by have := hb1.size; simp; omega) (fun k hk => (hown.lt k hk).1)).setCell (p := ⟨b, 1, none⟩) hB _

/-- a digit's sign -/
def sgn (n : Nat) : UInt8 := ([48, 49, 50, 51, 52, 53, 54, 55, 56, 57, 97, 98, 99, 100, 101, 102] : List UInt8).getD n 0
def showL (h : List UInt8) : List UInt8 := h.flatMap fun c => [sgn (c.toNat / 16), sgn (c.toNat % 16)]
theorem showL_snoc (h : List UInt8) (c : UInt8) : showL (h ++ [c]) = showL h ++ [sgn (c.toNat / 16)] ++ [sgn (c.toNat % 16)] := by simp [showL]
theorem showL_length (h : List UInt8) : (showL h).length = 2 * h.length := by
  induction h with
  | nil => rfl
  | cons c h ih => simp [showL] at *; omega
theorem byteCells_snoc (l : List UInt8) (c : UInt8) : Lib.byteCells (l ++ [c]) = Lib.byteCells l ++ [.int .u8 (c.toNat : Int)] := by simp [Lib.byteCells]
theorem byteCells_len (l : List UInt8) : (Lib.byteCells l).length = l.length := by simp [Lib.byteCells]
theorem sgn_index (n : Nat) (hn : n < 16) (w : World) : (Instr.index 9 (.string ⟨#[48, 49, 50, 51, 52, 53, 54, 55, 56, 57, 97, 98, 99, 100, 101, 102]⟩) (.int .u8 (n : Int))).run Try.prog w = .ok (.int .u8 ((sgn n).toNat : Int)) w := by
  rw [run_index_string w 9 _ .u8 n Try.underlying9, dif_pos ⟨by omega, by show (n : Int) < ((16 : Nat) : Int); omega⟩]
  congr 2
  have h : n = 0 ∨ n = 1 ∨ n = 2 ∨ n = 3 ∨ n = 4 ∨ n = 5 ∨ n = 6 ∨ n = 7 ∨ n = 8 ∨ n = 9 ∨ n = 10 ∨ n = 11 ∨ n = 12 ∨ n = 13 ∨ n = 14 ∨ n = 15 := by omega
  rcases h with rfl | rfl | rfl | rfl | rfl | rfl | rfl | rfl | rfl | rfl | rfl | rfl | rfl | rfl | rfl | rfl <;> rfl
theorem and15 (c : Nat) (h : c < 256) : bits BinOp.and IntKind.u8 (c : Int) 15 = ((c % 16 : Nat) : Int) := by
  rw [show (15 : Int) = ((15 : Nat) : Int) from rfl, u8_and_nat _ _ h (by omega)]
  rw [show c &&& 15 = c % 16 from Nat.and_two_pow_sub_one_eq_mod c 4]

set_option maxHeartbeats 1000000 in
set_option maxRecDepth 100000 in
/-- **digest.Show** -/
theorem show_any (h : List UInt8) (hl : h.length = 32) (w : World) :
    Calls Try.prog 31 #[.agg (enc8 h).toArray] w fun e w' => e = .returned (.string ⟨(showL h).toArray⟩) ∧ Below w.heap.size w w' := by
  obtain ⟨arr, harr⟩ : ∃ arr, enc8 h = arr := ⟨_, rfl⟩
  have Harr := Lib.hid harr
  rw [harr]
  have hal : arr.length = 32 := by rw [← harr, enc8_len, hl]
  have Hal := Lib.hid hal
  have hr := Lib.hid ((Row.new w arr.toArray 24).alloc (.cells #[.pointer none, .slice none 0 0] TB))
  have hs1 : (w.alloc (.cells arr.toArray 24)).heap.size = w.heap.size + 1 := by show (w.heap.push _).size = _; simp
  have hbd : Lib.IsBuilder TB 5 w.heap.size (w.heap.size + 1) [] ((w.alloc (.cells arr.toArray 24)).alloc (.cells #[.pointer none, .slice none 0 0] TB)) :=
    .inl ⟨by omega, .slice none 0 0, by rw [← hs1]; exact heap_alloc_new _ _, World.ownsRow_nil _ _ _ _, by simp [Value.ownBlock]⟩
  have hb0 : Below w.heap.size w ((w.alloc (.cells arr.toArray 24)).alloc (.cells #[.pointer none, .slice none 0 0] TB)) := ((Below.refl _ w).alloc (Nat.le_refl _) _).alloc (by omega) _
  obtain ⟨B0, hB0⟩ : ∃ B0, w.heap.size = B0 := ⟨_, rfl⟩
  rw [hB0] at hbd hb0 hr
  have HBD := Lib.hid hbd
  have HB0 := Lib.hid hb0
  clear hbd hb0 hs1 harr hal
  go_enter Try.func31, Try.ntmps31
  go_wp2_with (refine Row.load hr.out rfl 24 (.tmp 1) rfl rfl _ _ Try.underlying24 (by rw [show arr.toArray.toList = arr from rfl, Hal.out]; kernel_rfl) ?_)
  clear hr
  go_loopw [7] (fun q wr => ∃ i : Nat, (q = .int .i64 (i : Int) ∧ i ≤ 32) ∧ Lib.IsBuilder TB 5 B0 (B0 + 1) (Lib.byteCells (showL (h.take i))) wr ∧ Below B0 w wr) (fun q _ => 32 - (intOf q).toNat)
  case atStart => exact ⟨0, ⟨rfl, by omega⟩, HBD.out, HB0.out⟩
  case round =>
    clear HBD HB0
    obtain ⟨i, ⟨rfl, hi⟩, hbd, hb⟩ := hrel
    have hsz : B0 ≤ wr.heap.size := by rw [← hB0]; exact hb.size
    by_cases hlt : i < 32
    · have htk : h.take (i + 1) = h.take i ++ [h[i]'(by omega)] := List.take_succ_eq_append_getElem (by omega)
      obtain ⟨c, hc⟩ : ∃ c, h[i]'(by omega) = c := ⟨_, rfl⟩
      rw [hc] at htk
      have hget : arr[i]? = some (.int .u8 (c.toNat : Int)) := by
        rw [← Harr.out, enc8_get h i (by omega)]
        unfold gb
        rw [List.getElem?_eq_getElem (by omega), hc]; rfl
      have kx := fun w => run_index_array 24 5 32 arr i _ Try.underlying24 Try.sizeOf5 Try.isAgg5 Hal.out hget w
      obtain ⟨n, hn⟩ : ∃ n, c.toNat = n := ⟨_, rfl⟩
      have hn256 : n < 256 := by rw [← hn]; exact c.toNat_lt
      rw [hn] at kx
      have ha := and15 n hn256
      obtain ⟨q, hq⟩ : ∃ q, n / 16 = q := ⟨_, rfl⟩
      obtain ⟨r, hr⟩ : ∃ r, n % 16 = r := ⟨_, rfl⟩
      have hd : (n : Int) / 16 = (q : Int) := by omega
      rw [hr] at ha
      have kq := fun w => sgn_index q (by omega) w
      have kr := fun w => sgn_index r (by omega) w
      have hsh : showL (h.take (i + 1)) = showL (h.take i) ++ [sgn q] ++ [sgn r] := by rw [htk, showL_snoc, hn, hq, hr]
      have hlen : (Lib.byteCells (showL (h.take i))).length = 2 * i := by rw [byteCells_len, showL_length, List.length_take]; omega
      have Hsh := Lib.hid hsh
      have Hbd := Lib.hid hbd
      have Hb := Lib.hid hb
      have Hlen := Lib.hid hlen
      obtain ⟨bs, hbs⟩ : ∃ bs, Lib.byteCells (showL (h.take i)) = bs := ⟨_, rfl⟩
      rw [hbs] at Hbd Hlen
      have Hbs := Lib.hid hbs
      obtain ⟨sq, hsq⟩ : ∃ x, ((sgn q).toNat : Int) = x := ⟨_, rfl⟩
      obtain ⟨sr, hsr⟩ : ∃ x, ((sgn r).toNat : Int) = x := ⟨_, rfl⟩
      rw [hsq] at kq
      rw [hsr] at kr
      have Hsq := Lib.hid hsq
      have Hsr := Lib.hid hsr
      clear hbd hb hsh hlen hbs htk hc hget hn hq hr hsq hsr
      go_wp2_with fail
      refine (wbyte_any B0 (B0 + 1) bs sq wr Hbd.out (by rw [Hlen.out]; omega) hsz).mono ?_
      rintro e w1 ⟨rfl, hbd1, hb1⟩
      have Hbd1 := Lib.hid hbd1
      have Hb1 := Lib.hid (Hb.out.trans hb1)
      have hsz1 : B0 ≤ w1.heap.size := Nat.le_trans hsz hb1.size
      clear hbd1 hb1 Hbd Hb
      go_wp2_with fail
      refine (wbyte_any B0 (B0 + 1) (bs ++ [.int .u8 sq]) sr w1 (.inr Hbd1.out) (by rw [List.length_append, Hlen.out]; simp; omega) hsz1).mono ?_
      rintro e w2 ⟨rfl, hbd2, hb2⟩
      have Hbd2 : Hid (Lib.IsBuilder TB 5 B0 (B0 + 1) (Lib.byteCells (showL (h.take (i + 1)))) w2) := by
        unfold Hid
        rw [Hsh.out, byteCells_snoc, byteCells_snoc, Hbs.out, Hsq.out, Hsr.out]
        exact .inr hbd2
      have Hb2 := Lib.hid (Hb1.out.trans hb2)
      clear hbd2 hb2 Hbd1 Hb1
      go_wp2
      go_roundw
      case rel => exact ⟨i + 1, ⟨by go_num, by omega⟩, Hbd2.out, Hb2.out⟩
      case measure => simp [intOf]; omega
    · obtain rfl : i = 32 := by omega
      rw [List.take_of_length_le (by omega)] at hbd
      have Hbd := Lib.hid hbd
      have Hb := Lib.hid hb
      clear hbd hb
      go_wp2_with fail
      refine (Try.Builder_String_any B0 (B0 + 1) (showL h) _ Hbd.out hsz).mono ?_
      rintro e w1 ⟨rfl, hb1⟩
      have Hb1 := Lib.hid (Hb.out.trans hb1)
      clear hb1
      go_wp2
      go_ret
      exact ⟨rfl, by rw [hB0]; exact Hb1.out⟩

theorem SS_lit (w : World) (A : Option Addr) (n c : Nat) (l : List UInt8) (t : TypeId) (h : SB w (.slice A n c) l) : SS (w.alloc (.cells #[.slice A n c] t)) (.slice (some ⟨w.heap.size, 0, none⟩) 1 1) [l] := by
  refine .inr ⟨_, 1, rfl, by simp, fun _ => ⟨w.heap.size, 0, rfl, fun i hi => ⟨.slice A n c, ?_, ?_⟩⟩⟩
  · obtain rfl : i = 0 := by simpa using hi
    rw [(Row.new w #[.slice A n c] t).cell 0]; rfl
  · obtain rfl : i = 0 := by simpa using hi
    exact h.below ((Below.refl _ w).alloc (Nat.le_refl _) _)
set_option maxHeartbeats 1000000 in
set_option maxRecDepth 100000 in
/-- **digest.Sum** -/
theorem dsum_any (v : Value) (L : List UInt8) (w : World) (hv : SB w v L) (hmax : L.length ≤ 100000) :
    Calls Try.prog 15 #[v] w fun e w' => e = .returned (.agg (enc8 (sumL L)).toArray) ∧ Below w.heap.size w w' := by
  obtain ⟨A, c, rfl, hc1, hc2, -⟩ := hv.form
  have hr0 : Row (w.alloc (.cells #[.int .u8 0, .int .u8 0, .int .u8 0, .int .u8 0, .int .u8 0, .int .u8 0, .int .u8 0, .int .u8 0, .int .u8 0, .int .u8 0, .int .u8 0, .int .u8 0, .int .u8 0, .int .u8 0, .int .u8 0, .int .u8 0, .int .u8 0, .int .u8 0, .int .u8 0, .int .u8 0, .int .u8 0, .int .u8 0, .int .u8 0, .int .u8 0, .int .u8 0, .int .u8 0, .int .u8 0, .int .u8 0, .int .u8 0, .int .u8 0, .int .u8 0, .int .u8 0] 24)) w.heap.size 24 (enc8 (List.replicate 32 0)) := Row.new w _ _
  have hb0 : Below w.heap.size w (w.alloc (.cells #[.int .u8 0, .int .u8 0, .int .u8 0, .int .u8 0, .int .u8 0, .int .u8 0, .int .u8 0, .int .u8 0, .int .u8 0, .int .u8 0, .int .u8 0, .int .u8 0, .int .u8 0, .int .u8 0, .int .u8 0, .int .u8 0, .int .u8 0, .int .u8 0, .int .u8 0, .int .u8 0, .int .u8 0, .int .u8 0, .int .u8 0, .int .u8 0, .int .u8 0, .int .u8 0, .int .u8 0, .int .u8 0, .int .u8 0, .int .u8 0, .int .u8 0, .int .u8 0] 24)) := (Below.refl _ w).alloc (Nat.le_refl _) _
  have hv1 := hv.below hb0
  obtain ⟨wa, hwa⟩ : ∃ wa, w.alloc (.cells #[.int .u8 0, .int .u8 0, .int .u8 0, .int .u8 0, .int .u8 0, .int .u8 0, .int .u8 0, .int .u8 0, .int .u8 0, .int .u8 0, .int .u8 0, .int .u8 0, .int .u8 0, .int .u8 0, .int .u8 0, .int .u8 0, .int .u8 0, .int .u8 0, .int .u8 0, .int .u8 0, .int .u8 0, .int .u8 0, .int .u8 0, .int .u8 0, .int .u8 0, .int .u8 0, .int .u8 0, .int .u8 0, .int .u8 0, .int .u8 0, .int .u8 0, .int .u8 0] 24) = wa := ⟨_, rfl⟩
  have hwsz : wa.heap.size = w.heap.size + 1 := by rw [← hwa]; show (w.heap.push _).size = _; simp
  rw [hwa] at hr0 hb0 hv1
  have Hwa := Lib.hid hwa
  have hss := SS_lit wa A L.length c L 22 hv1
  have hj := join_any _ [L] _ hss (by simpa using hmax)
  rw [show ([L] : List (List UInt8)).flatten = L by simp] at hj
  obtain ⟨out, hout⟩ : ∃ out, sumL L = out := ⟨_, rfl⟩
  rw [hout, hwsz] at hj
  rw [hout]
  have hol : out.length = 32 := by rw [← hout]; exact sumL_length L
  have Hj := Lib.hid hj
  have R0 := Lib.hid hr0
  have HB0 := Lib.hid hb0
  have Hol := Lib.hid hol
  clear hv hr0 hb0 hv1 hss hj hwa hout hol
  go_enter Try.func15, Try.ntmps15
  go_wp2_with fail
  rw [Hwa.out]
  go_fit (Hj.out)
  rintro e wj ⟨rfl, hbj⟩
  have hbj' := hbj.mono (show wa.heap.size ≤ (wa.alloc (.cells #[.slice A L.length c] 22)).heap.size by simp)
  have R1 := Lib.hid ((R0.out.alloc (.cells #[.slice A L.length c] 22)).below hbj (by have := R0.out.lt; simp; omega))
  have RR := Lib.hid (R1.out.setRow (enc8 out))
  have hbz := (HB0.out.alloc (by have := HB0.out.size; exact this) (.cells #[.slice A L.length c] 22)).trans (hbj.mono (by have := HB0.out.size; simp; omega))
  have HBz := Lib.hid (below_setRow hbz (Nat.le_refl w.heap.size) (enc8 out).toArray)
  clear hbj hbj' hbz Hj R0 HB0
  go_wp2_with (refine R1.out.store (m := enc8 out) rfl 24 (.tmp 2) (.tmp 5) rfl rfl rfl (by rw [enc8_len, Hol.out]; kernel_rfl) (by rw [enc8_len, enc8_len, Hol.out, List.length_replicate]) (enc8_all _) ?_)
  refine bodyPost_ret (v := .agg (enc8 out).toArray) (RR.out.result Try.results15 _ _ _ rfl Try.underlying24 (by rw [enc8_len, Hol.out]; kernel_rfl)) rfl ?_
  exact ⟨rfl, HBz.out⟩
end Go.Proofs.Ytkipnhhdlohnfaa

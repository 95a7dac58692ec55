/- The reference's records; few; the examples that every law of layer 2 asks first. -/
import Derived.RangeFuncNested
import Derived.RangeFuncBound
import Derived.RangeFuncCalls
import Derived.RangeFuncLeaves
import Derived.Shelf.Abstract
import Derived.Shelf.RegionOpen
import Derived.WalkKit
import Derived.OwnWalkIn
import Derived.TacticsInMore
import Derived.LoopNIn
import Derived.LoopIn
import Derived.Outline
import Derived.Lib.Hide
import Derived.IntWalk
import Derived.WalkLawsBesides
import Derived.WalkSpells
import Derived.Laws.BitsAllLaws
import Derived.Lib.ConvBytes
import Derived.Maps.AppendAt
import Derived.Lib.AppendStr
import Derived.Lib.SlBytesConst
import Derived.Laws.AppendOwnNone
import Derived.Laws.OwnMore
import Derived.Laws.BytesArg
import Derived.Test.YtlgmocmekmppeaaProg
import Derived.Test.YtlgmocmekmppeaaFrB
set_option linter.unusedVariables false
set_option linter.unusedSimpArgs false
namespace Go.Proofs.Ytlgmocmekmppeaa
open Go Go.RowKit Go.Shelf

theorem OB.mono {W : World} {B B' : Nat} {v : Value} {l : List UInt8} (h : OB W B v l) (hb : B' ≤ B) : OB W B' v l := by
  obtain ⟨h1, h2⟩ := h
  refine ⟨h1, ?_⟩
  rcases h2 with h | ⟨g, cap, cur, e, hg, r⟩
  · exact .inl h
  · exact .inr ⟨g, cap, cur, e, by omega, r⟩

theorem OB.below {W W' : World} {B : Nat} {v : Value} {l : List UInt8} (h : OB W B v l) (hb : Below W.heap.size W W') : OB W' B v l :=
  h.kept (row := none) ⟨hb.os, hb.tape, hb.output, hb.size, fun k hk _ => hb.block k hk⟩ (by cases v.ownBlock <;> simp)

theorem OB_lit (w : World) (cs : Array Value) (l : List UInt8) (hl : l.length ≤ 100000000) (h : cs.toList = enc8 l) : OB (w.alloc (.cells cs 5)) w.heap.size (.slice (some ⟨w.heap.size, 0, none⟩) l.length l.length) l := by
  have hs : cs.size = l.length := by rw [← Array.length_toList, h, enc8_len]
  refine ⟨by rw [enc8_len]; simp, .inr ⟨w.heap.size, l.length, cs, rfl, Nat.le_refl _, World.alloc_heap_new w _, Nat.le_refl _, ?_, by simpa using hs, ?_⟩⟩
  · unfold maxLen; omega
  · rw [Nat.mul_one, h, List.take_of_length_le (by rw [enc8_len]; omega)]

set_option maxRecDepth 100000 in
set_option maxHeartbeats 400000 in
theorem four_any (x : Nat) (hx : x < 4294967296) (w : World) :
    Calls Try.prog 43 #[.int .u32 x] w fun e w' => ∃ v', e = .returned v' ∧ OB w' w.heap.size v' (le4 x) ∧ Below w.heap.size w w' := by
  go_enter Try.func43, Try.ntmps43
  go_wp2
  go_ret
  exact ⟨_, rfl, OB_lit w _ (le4 x) (by simp [le4]) (by simp [enc8, le4]; omega), (Below.refl _ _).alloc (Nat.le_refl _) _⟩

set_option maxRecDepth 100000 in
set_option maxHeartbeats 400000 in
/-- **the reference's Put** -/
theorem rput_any (v : Value) (l : List UInt8) (w : World) (hn : l.length ≤ 2000) (h : SB w v l) :
    Calls Try.prog 20 #[v] w fun e w' => ∃ v', e = .returned (.tuple #[v', .int .i64 0]) ∧ OB w' w.heap.size v' (recB l) ∧ Below w.heap.size w w' := by
  obtain ⟨A, c, rfl, h1, h2, h3⟩ := h.form
  have h' := Lib.hid h
  clear h h3
  have hcl := crcN_lt l
  go_enter Try.func20, Try.ntmps20
  go_wp2_with fail
  refine (four_any l.length (by omega) w).mono ?_
  rintro e w1 ⟨v1, rfl, hown1, hB1⟩
  go_wp2_with fail
  refine (rcrc_any _ l w1 (by omega) (h'.out.below hB1)).mono ?_
  rintro e w2 ⟨rfl, rfl⟩
  go_wp2_with fail
  refine (four_any (crcN l) hcl w1).mono ?_
  rintro e w2 ⟨v2, rfl, hown2, hB2⟩
  have hB2' := hB1.trans (hB2.mono hB1.size)
  go_wp2_with (at_builtin; refine wpB_append rfl _ _ rfl w.heap.size _ _ _ _ rfl (hown1.below hB2) rfl hown2.reads (by simp [le4]) hB2'.size ?_)
  intro v3 w3 hown3 _ hB3
  have hB3' := hB2'.trans hB3
  go_wp2_with (at_builtin; refine wpB_append rfl _ _ rfl w.heap.size _ _ _ l rfl hown3 rfl (h'.out.below hB3') (by simp [le4]; omega) hB3'.size ?_)
  intro v4 w4 hown4 _ hB4
  go_wp2
  go_ret2
  exact ⟨_, rfl, by simpa [recB] using hown4, hB3'.trans hB4⟩

/-- A VALUE IS A SLICE OF SLICES THAT READS AS THESE LISTS OF BYTES. -/
def SS (W : World) (v : Value) (ls : List (List UInt8)) : Prop :=
  (v = .slice none 0 0 ∧ ls = []) ∨
  ∃ ad c, v = .slice (some ad) ls.length c ∧ (ls.length ≤ c ∧ c ≤ 9223372036854775807) ∧ (0 < ls.length → ∃ g o, ad = ⟨g, o, none⟩ ∧ ∀ i, i < ls.length → ∃ u, W.cell? ⟨g, o + i, none⟩ = some u ∧ SB W u (ls[i]?.getD []))
theorem SS.form {W : World} {v : Value} {ls : List (List UInt8)} (h : SS W v ls) :
    ∃ A c, v = .slice A ls.length c ∧ (ls.length ≤ c ∧ c ≤ 9223372036854775807) ∧ (0 < ls.length → ∃ g o, A = some ⟨g, o, none⟩ ∧ ∀ i, i < ls.length → ∃ u, W.cell? ⟨g, o + i, none⟩ = some u ∧ SB W u (ls[i]?.getD [])) := by
  rcases h with ⟨rfl, rfl⟩ | ⟨ad, c, rfl, h1, h3⟩
  · exact ⟨none, 0, rfl, by simp, fun h => by simp at h⟩
  · exact ⟨some ad, c, rfl, h1, fun h => by obtain ⟨g, o, rfl, hc⟩ := h3 h; exact ⟨g, o, rfl, hc⟩⟩

def fewB (ls : List (List UInt8)) : Bool := decide (ls.length ≤ 50) && ls.all fun l => decide (l.length ≤ 2000)

set_option maxRecDepth 100000 in
set_option maxHeartbeats 400000 in
theorem few_ne (g o c : Nat) (ls : List (List UInt8)) (w : World) (h50 : ls.length ≤ 50)
  (hc : ∀ i, i < ls.length → ∃ u, w.cell? ⟨g, o + i, none⟩ = some u ∧ SB w u (ls[i]?.getD [])) :
    Calls Try.prog 16 #[.slice (some ⟨g, o, none⟩) ls.length c] w fun e w' => e = .returned (.bool (ls.all fun l => decide (l.length ≤ 2000))) ∧ w = w' := by
  have HC := Lib.hid hc; clear hc
  go_enter Try.func16, Try.ntmps16
  go_wp2
  go_loop [4, 10] (fun _ i => ∃ k : Nat, k ≤ ls.length ∧ i = .int .i64 k ∧ Hid (∀ j, j < k → (ls[j]?.getD []).length ≤ 2000)) (fun _ i => ls.length - (intOf i).toNat)
  case atStart => exact ⟨0, Nat.zero_le _, rfl, fun j hj => by omega⟩
  case round =>
    obtain ⟨k, hk, rfl, hall⟩ := hrel
    by_cases hlt : k < ls.length
    · obtain ⟨u, hu, hsb⟩ := HC.out k hlt
      obtain ⟨A, c', rfl, h1, h2, h3⟩ := hsb.form
      clear hsb h3
      generalize hm : (ls[k]?.getD []).length = m at *
      have Hm := Lib.hid hm
      clear hm
      by_cases h2000 : m ≤ 2000
      · go_wp2
        go_round
        case rel =>
          refine ⟨k + 1, by omega, by go_num, fun j hj => ?_⟩
          rcases Nat.lt_or_eq_of_le (Nat.le_of_lt_succ hj) with h | rfl
          · exact hall.out j h
          · rw [Hm.out]; exact h2000
        case measure => simp [intOf]; omega
      · go_wp2
        go_ret
        refine ⟨?_, rfl⟩
        have : (ls.all fun l => decide (l.length ≤ 2000)) = false := by
          rw [List.all_eq_false]
          refine ⟨ls[k]?.getD [], by simp [hlt], ?_⟩
          rw [Hm.out]; simpa using h2000
        rw [this]; rfl
    · obtain rfl : k = ls.length := by omega
      go_wp2
      go_ret
      refine ⟨?_, rfl⟩
      have : (ls.all fun l => decide (l.length ≤ 2000)) = true := by
        rw [List.all_eq_true]
        intro l hl
        obtain ⟨j, hj, rfl⟩ := List.mem_iff_getElem.1 hl
        have := hall.out j hj
        simpa [hj] using this
      rw [this]; rfl

set_option maxRecDepth 100000 in
set_option maxHeartbeats 400000 in
theorem few_many (A : Option Addr) (n c : Nat) (w : World) (h50 : ¬ n ≤ 50) (hn : n ≤ 9223372036854775807) :
    Calls Try.prog 16 #[.slice A n c] w fun e w' => e = .returned (.bool false) ∧ w = w' := by
  go_enter Try.func16, Try.ntmps16
  go_wp2
  go_ret
  exact ⟨rfl, rfl⟩
set_option maxRecDepth 100000 in
set_option maxHeartbeats 400000 in
theorem few_nil (A : Option Addr) (c : Nat) (w : World) :
    Calls Try.prog 16 #[.slice A 0 c] w fun e w' => e = .returned (.bool true) ∧ w = w' := by
  go_enter Try.func16, Try.ntmps16
  go_wp2
  go_loop [4, 10] (fun _ i => i = .int .i64 0) (fun _ i => 0)
  case atStart => exact rfl
  case round =>
    obtain rfl := hrel
    go_wp2
    go_ret
    exact ⟨rfl, rfl⟩

theorem few_any (v : Value) (ls : List (List UInt8)) (w : World) (h : SS w v ls) :
    Calls Try.prog 16 #[v] w fun e w' => e = .returned (.bool (fewB ls)) ∧ w = w' := by
  obtain ⟨A, c, rfl, h1, h2⟩ := h.form
  unfold fewB
  by_cases h50 : ls.length ≤ 50
  · rw [decide_eq_true h50, Bool.true_and]
    cases ls with
    | nil => exact few_nil A c w
    | cons x ls =>
      obtain ⟨g, o, rfl, hc⟩ := h2 (by simp)
      exact few_ne g o c _ w h50 hc
  · rw [decide_eq_false h50, Bool.false_and]
    exact few_many A _ c w h50 (by omega)

/-- a slice as a string -/
theorem SB.str {W : World} {v : Value} {l : List UInt8} (h : SB W v l) : (convert 22 9 v).run Try.prog W = .ok (.string ⟨l.toArray⟩) W := by
  rcases h with ⟨rfl, rfl⟩ | ⟨ad, c, rfl, h1, h2, h3⟩
  · exact run_convert_bytes_nil W 22 5 Try.underlying22 Try.underlying5 0 0 9 Try.underlying9
  · cases l with
    | nil =>
      rw [run_convert_bytes_string W 22 9 5 _ _ c Try.underlying22 Try.underlying5 Try.underlying9, List.length_nil, run_bytesToString W ad 0 c [] (by
        have := run_loadCells_list (P := Try.prog) W ad [] (fun j v hj => by simp at hj)
        simpa using this)]
      rfl
    | cons x l =>
      obtain ⟨g, o, rfl, hc⟩ := h3 (by simp)
      rw [run_convert_bytes_arg W 22 5 Try.underlying22 Try.underlying5 g o _ c ((x :: l).map fun b => (b.toNat : Int)) (by simp) (fun i hi => by
        rw [hc i hi, List.getD, List.getElem?_map]
        simp only [gb]
        rw [List.getElem?_eq_getElem hi]
        rfl) 9 Try.underlying9]
      have : strOfNums ((x :: l).map fun b => (b.toNat : Int)) = ⟨(x :: l).toArray⟩ := by
        unfold strOfNums
        congr 2
        rw [List.map_map]
        conv => rhs; rw [← List.map_id (x :: l)]
        exact List.map_congr_left fun b _ => by simp
      rw [this]

theorem crc9 : crcN [49, 50, 51, 52, 53, 54, 55, 56, 57] = 3421780262 := by decide +kernel
theorem rec_a : recB [97] = [1, 0, 0, 0, 67, 190, 183, 232, 97] := by decide +kernel

/-- a text's bytes: the block bears a mark -/
theorem SB_mark (w : World) (cs : Array Value) (l : List UInt8) (n : Nat) (m : Nat × Nat) (hn : n = l.length) (hl : l.length ≤ 100000000) (h : cs.toList = enc8 l) :
    SB (w.alloc (.cells cs 5 m)) (.slice (some ⟨w.heap.size, 0, none⟩) n n) l := by
  subst hn
  refine .inr ⟨_, l.length, rfl, Nat.le_refl _, by omega, fun _ => ⟨w.heap.size, 0, rfl, fun i hi => ?_⟩⟩
  have e := enc8_get l i hi
  rw [← h] at e
  simp only [World.cell?, World.alloc_heap_new, Nat.zero_add]
  simpa using e

set_option maxRecDepth 100000 in
set_option maxHeartbeats 400000 in
/-- **the examples** -/
theorem awake_any (w : World) : Calls Try.prog 15 #[] w fun e w' => e = .returned (.bool true) ∧ Below w.heap.size w w' := by
  have hA := SB_mark w #[.int .u8 97] [97] 1 (1, 2) rfl (by simp) rfl
  have hB0 : Below w.heap.size w (w.alloc (.cells #[.int .u8 97] 5 (1, 2))) := (Below.refl _ _).alloc (Nat.le_refl _) _
  have kc := fun (w : World) (C : Array Value) (n c : Nat) => Lib.run_convert_bytes_const (P := Try.prog) w 22 5 C n c Try.underlying22 Try.underlying5
  go_enter Try.func15, Try.ntmps15
  go_wp2_with fail
  refine (put_any _ [97] _ (by simp) hA).mono ?_
  rintro e w1 ⟨v1, rfl, hown, hB1⟩
  have hs := hown.reads
  have hB1' := hB0.trans (hB1.mono hB0.size)
  have hE := SB_mark w1 #[.int .u8 49, .int .u8 50, .int .u8 51, .int .u8 52, .int .u8 53, .int .u8 54, .int .u8 55, .int .u8 56, .int .u8 57] [49, 50, 51, 52, 53, 54, 55, 56, 57] 9 (9, 10) rfl (by simp) rfl
  have hst := fun (o : Obj) => (hs.below ((Below.refl w1.heap.size w1).alloc (Nat.le_refl _) o)).str
  rw [rec_a] at hst
  go_wp2_with fail
  refine (crc_any _ [49, 50, 51, 52, 53, 54, 55, 56, 57] _ (by simp) hE).mono ?_
  rintro e w2 ⟨rfl, rfl⟩
  rw [crc9]
  go_wp2
  go_ret
  exact ⟨rfl, (hB1'.alloc hB1'.size _)⟩
end Go.Proofs.Ytlgmocmekmppeaa

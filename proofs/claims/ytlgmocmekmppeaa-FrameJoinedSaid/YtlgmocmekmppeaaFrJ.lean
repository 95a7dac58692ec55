/- frame's iterator over records. -/
import Derived.RangeFuncNested
import Derived.RangeFuncBound
import Derived.RangeFuncCalls
import Derived.RangeFuncLeaves
import Derived.Shelf.Abstract
import Derived.Shelf.RegionOpen
import Derived.WalkKit
import Derived.OwnWalkIn
import Derived.TacticsInMore
import Derived.LoopNIn
import Derived.LoopIn
import Derived.Outline
import Derived.Lib.Hide
import Derived.Lib.SliceRun
import Derived.IntWalk
import Derived.WalkLawsBesides
import Derived.WalkSpells
import Derived.Laws.BitsAllLaws
import Derived.Lib.ConvBytes
import Derived.Maps.AppendAt
import Derived.Lib.AppendStr
import Derived.Lib.SlBytesConst
import Derived.Laws.AppendOwnNone
import Derived.Laws.OwnMore
import Derived.Laws.BytesArg
import Derived.Deep.RegionHeld3
import Derived.BigQuiet
import Derived.Deep.RegionLaw
import Derived.Deep.QuietTactic
import Derived.Test.YtlgmocmekmppeaaProg
import Derived.Test.YtlgmocmekmppeaaFrH
set_option linter.unusedVariables false
set_option linter.unusedSimpArgs false
namespace Go.Proofs.Ytlgmocmekmppeaa
open Go Go.RowKit Go.Shelf
attribute [local go_sem] Oper.semAt_some

/-- the records from 'pos' on, each with where it ends -/
def recsAt : Nat → Nat → List UInt8 → List (Nat × List UInt8)
  | 0, _, _ => []
  | f + 1, pos, s => if nextB s then (pos + 8 + wordL s, nextX s) :: recsAt f (pos + 8 + wordL s) (nextR s) else []
theorem recsAt_none {s : List UInt8} (h : nextB s = false) (f pos : Nat) : recsAt f pos s = [] := by
  cases f with
  | zero => rfl
  | succ f => simp [recsAt, h]
theorem nextB_len {s : List UInt8} (h : nextB s = true) : 8 + wordL s ≤ s.length ∧ wordL s ≤ 1000000 := by
  simp only [nextB, Bool.and_eq_true, decide_eq_true_eq] at h
  omega
theorem recsAt_some {s : List UInt8} (h : nextB s = true) {f : Nat} (hf : s.length ≤ f) (pos : Nat) :
    ∃ f', (nextR s).length ≤ f' ∧ recsAt f pos s = (pos + 8 + wordL s, nextX s) :: recsAt f' (pos + 8 + wordL s) (nextR s) := by
  have := nextB_len h
  cases f with
  | zero => omega
  | succ f => exact ⟨f, by simp [nextR]; omega, by simp [recsAt, h]⟩

/-- A SLICE THAT READS AS THESE BYTES, in no block that M names. -/
def SBD (n₀ : Nat) (M : Nat → Prop) (W : World) (v : Value) (l : List UInt8) : Prop :=
  (v = .slice none 0 0 ∧ l = []) ∨
  ∃ ad c, v = .slice (some ad) l.length c ∧ l.length ≤ c ∧ c ≤ 9223372036854775807 ∧ (0 < l.length → ∃ g o, ad = ⟨g, o, none⟩ ∧ (g < n₀ ∨ (¬ M g ∧ ∃ cs fr, W.heap[g]? = some (.cells cs 5 fr))) ∧ ∀ i, i < l.length → W.cell? ⟨g, o + i, none⟩ = some (.int .u8 (gb l i)))
theorem SBD.sb {n₀ : Nat} {M : Nat → Prop} {W : World} {v : Value} {l : List UInt8} (h : SBD n₀ M W v l) : SB W v l := by
  rcases h with h | ⟨ad, c, rfl, h1, h2, h3⟩
  · exact .inl h
  · exact .inr ⟨ad, c, rfl, h1, h2, fun h0 => by obtain ⟨g, o, e, _, hc⟩ := h3 h0; exact ⟨g, o, e, hc⟩⟩
theorem SBD.of_OB {n₀ : Nat} {M : Nat → Prop} {W : World} {base : Nat} {v : Value} {l : List UInt8} (h : OB W base v l) (hM : ∀ b, M b → b < base) : SBD n₀ M W v l := by
  obtain ⟨hl, h2⟩ := h
  rcases h2 with ⟨rfl, h0⟩ | ⟨g, cap, cur, rfl, hb, hg, hc, hm, hs, ht⟩
  · exact .inl ⟨rfl, List.length_eq_zero_iff.1 h0⟩
  · refine .inr ⟨_, cap, rfl, hc, by unfold maxLen at hm; omega, fun h0 => ⟨g, 0, rfl, .inr ⟨fun h => by have := hM g h; omega, _, _, hg⟩, fun i hi => ?_⟩⟩
    have e := enc8_get l i hi
    rw [← ht] at e
    simp only [Nat.mul_one] at e
    rw [List.getElem?_take_of_lt (by omega)] at e
    simp only [World.cell?, hg, Nat.zero_add]
    simpa using e
theorem cell_block {W W' : World} {a : Addr} (h : W'.heap[a.block]? = W.heap[a.block]?) : W'.cell? a = W.cell? a := by simp [World.cell?, h]
/-- the law's own two blocks hold no cells -/
theorem SBD.loop {n₀ : Nat} {M : Nat → Prop} {W : World} {v : Value} {l : List UInt8} {lp dk : Nat} {r : Loop} {o : Obj} {ds : Option (List Deferred)} (h : SBD n₀ M W v l) (h1 : W.heap[lp]? = some (.loop r)) (h2 : W.heap[dk]? = some (.deferred ds)) :
    SBD n₀ (fun b => M b ∨ b = lp ∨ b = dk) (W.putObj lp o) v l := by
  rcases h with h | ⟨ad, c, rfl, ha, hb, h3⟩
  · exact .inl h
  · refine .inr ⟨ad, c, rfl, ha, hb, fun h0 => ?_⟩
    obtain ⟨g, o', rfl, hg, hc⟩ := h3 h0
    have hc0 := hc 0 h0
    have hgl : g ≠ lp := by rintro rfl; simp [World.cell?, h1] at hc0
    have hgd : g ≠ dk := by rintro rfl; simp [World.cell?, h2] at hc0
    refine ⟨g, o', rfl, ?_, fun i hi => ?_⟩
    · rcases hg with hg | hg
      · exact .inl hg
      · obtain ⟨hg, cs, fr, hb⟩ := hg
        exact .inr ⟨fun h => h.elim hg (fun h => h.elim hgl hgd), cs, fr, (World.putObj_heap_other hgl).trans hb⟩
    · rw [← hc i hi]
      exact cell_block (a := ⟨g, o' + i, none⟩) (World.putObj_heap_other hgl)
/-- it lies on where the blocks that D names do -/
theorem SBD.keep {n₀ : Nat} {M D : Nat → Prop} {W W' : World} {v : Value} {l : List UInt8} (h : SBD n₀ M W v l) (hk : KeepOn n₀ D W W') (hD : ∀ b cs fr, W.heap[b]? = some (.cells cs 5 fr) → ¬ M b → D b) : SBD n₀ M W' v l := by
  rcases h with h | ⟨ad, c, rfl, h1, h2, h3⟩
  · exact .inl h
  · refine .inr ⟨ad, c, rfl, h1, h2, fun h0 => ?_⟩
    obtain ⟨g, o, rfl, hg, hc⟩ := h3 h0
    have hlt := World.block_lt_of_cell? W _ (hc 0 h0)
    have hsame : W'.heap[g]? = W.heap[g]? := hk.block g hlt (hg.imp id (fun ⟨h, cs, fr, hb⟩ => hD g cs fr hb h))
    refine ⟨g, o, rfl, hg.imp id (fun ⟨h, cs, fr, hb⟩ => ⟨h, cs, fr, hsame.trans hb⟩), fun i hi => ?_⟩
    rw [← hc i hi]
    exact cell_block (a := ⟨g, o + i, none⟩) hsame

set_option maxRecDepth 100000 in
set_option maxHeartbeats 400000 in
theorem each_any (A : Option Addr) (n c : Nat) (w : World) : Calls Try.prog 47 #[.slice A n c] w fun e w' => e = .returned (.func (.func 55) #[] #[.pointer (some ⟨w.heap.size, 0, none⟩)]) ∧ w.alloc (.cells #[.slice A n c] 22) = w' := by
  go_enter Try.func47, Try.ntmps47
  go_wp2
  go_ret
  exact ⟨rfl, rfl⟩

def EncEach (n₀ : Nat) (x : Nat × List UInt8) (az : Array Value) (M : Nat → Prop) (W : World) : Prop := ∃ v, az = #[.int .i64 (x.1 : Int), v] ∧ SBD n₀ M W v x.2
def EachLeft (l : List UInt8) (k pos : Nat) : Prop := ∃ f, l.length - pos ≤ f ∧ (recsAt l.length 0 l).drop k = recsAt f pos (l.drop pos)
theorem EachLeft.start (l : List UInt8) : EachLeft l 0 0 := ⟨l.length, by simp, by simp⟩
theorem EachLeft.none {l : List UInt8} {k pos : Nat} (h : EachLeft l k pos) (hb : nextB (l.drop pos) = false) (hk : k ≤ (recsAt l.length 0 l).length) : (recsAt l.length 0 l).length = k := by
  obtain ⟨f, _, e⟩ := h
  rw [recsAt_none hb] at e
  have := congrArg List.length e
  simp at this
  omega
theorem EachLeft.some {l : List UInt8} {k pos : Nat} (h : EachLeft l k pos) (hb : nextB (l.drop pos) = true) :
    (recsAt l.length 0 l)[k]? = Option.some (pos + 8 + wordL (l.drop pos), nextX (l.drop pos)) ∧ EachLeft l (k + 1) (pos + 8 + wordL (l.drop pos)) := by
  obtain ⟨f, hf, e⟩ := h
  have hl := nextB_len hb
  obtain ⟨f', hf', e'⟩ := recsAt_some hb (f := f) (by simp; omega) pos
  rw [e'] at e
  refine ⟨?_, f', ?_, ?_⟩
  · have := congrArg (fun x => x[0]?) e
    simpa using this
  · simp [nextR] at hf'; omega
  · have := congrArg (List.drop 1) e
    rw [List.drop_drop] at this
    simp only [List.drop_succ_cons, List.drop_zero] at this
    rw [this, nextR, List.drop_drop, Nat.add_assoc]

theorem nextB_crc {l : List UInt8} (h : ¬ crcN ((l.drop 8).take (wordL l)) = wordL (l.drop 4)) : nextB l = false := by
  simp only [nextB, Bool.and_eq_false_iff, decide_eq_false_iff_not]
  exact .inr (.inr (.inr h))

set_option maxRecDepth 100000 in
set_option maxHeartbeats 4000000 in
theorem each1_seq (n₀ B : Nat) (A : Option Addr) (c : Nat) (l : List UInt8) (hlen : l.length ≤ 1000000) (w₀ w : World) (hw : w₀.heap.size = n₀) (hs : SB w₀ (.slice A l.length c) l) (hbw : Below n₀ w₀ w) (hB : n₀ ≤ B) (hbox : Boxed w B 22 (.slice A l.length c)) :
    SeqD Try.prog n₀ 55 #[.pointer (some ⟨B, 0, none⟩)] (EncEach n₀) (recsAt l.length 0 l) (fun b => b = B) w := by
  intro lp J Jx W D hDb hown hbel hn hJ hJx hY h0
  subst hw
  obtain ⟨hB1, hB2, hB3⟩ := hown B rfl
  have hboxW : Boxed W B 22 _ := hB3.trans hbox
  have hcB := hboxW.cell
  have hbW : Below w₀.heap.size w₀ W := hbw.trans hbel
  have hcl : l.length ≤ c := by obtain ⟨A', c', e, h1, _⟩ := hs.form; cases e; exact h1
  have HS := Lib.hid hs
  clear hs
  refine callsIn_of_wp Try.func55 rfl trivial ?_ rfl
  simp only [Try.ntmps55, List.size_toArray, List.length_cons, List.length_nil, Nat.reduceAdd, Nat.reduceSub, Array.replicate_succ, Array.replicate_zero, List.push_toArray, List.append_toArray, List.nil_append, List.cons_append]
  gi_wp2
  gi_loopw [3] (fun i wr => ∃ (pos k : Nat) (D : Nat → Prop), i = .int .i64 (pos : Int) ∧ pos ≤ l.length ∧ k ≤ (recsAt l.length 0 l).length ∧ Hid (EachLeft l k pos) ∧ J k D wr ∧ (∀ b, D b → b < wr.heap.size) ∧ ¬ D B ∧ Boxed wr B 22 (.slice A l.length c) ∧ Below w₀.heap.size w₀ wr ∧ w₀.heap.size ≤ wr.heap.size) (fun i _ => l.length - (intOf i).toNat)
  case atStart => exact ⟨0, 0, D, rfl, by omega, by omega, EachLeft.start l, h0, hDb, hB1, hboxW, hbW, hn⟩
  case round =>
    obtain ⟨pos, k, D, rfl, hpos, hk, hleft, hJk, hDb, hDB, hbx, hbe, hnn⟩ := hrel
    have hcB := hbx.cell
    by_cases h8 : 8 ≤ l.length - pos
    · have hsl : (l.drop pos).length = l.length - pos := by simp
      obtain ⟨nn, hnn'⟩ : ∃ nn, wordL (l.drop pos) = nn := ⟨_, rfl⟩
      have hnlt : nn < 4294967296 := by rw [← hnn']; exact wordL_lt _
      have Hn := Lib.hid hnn'
      clear hnn'
      have hs1 := (HS.out.below hbe).cut1 pos (l.length - pos) (c - pos) hpos rfl rfl
      have S1 := Lib.hid hs1
      clear hs1
      have r0 := slice_run1 A l.length c pos hpos (pos : Int) rfl (l.length - pos) (c - pos) rfl rfl
      gi_wp2_with fail
      refine ⟨trivial, rfl, (callsIn_wide.2 (word_any _ (l.drop pos) _ (by omega) (by omega) S1.out)).mono ?_⟩
      rintro e w1 ⟨rfl, hB1⟩
      rw [Hn.out]
      have hc1 := (hB1.cell (p := ⟨B, 0, none⟩) hbx.lt).trans hcB
      by_cases hm : nn ≤ 1000000
      · by_cases hn8 : nn ≤ l.length - pos - 8
        · have hg : decide ((1000000 : Int) < (nn : Int)) = false := by simp; omega
          have hg2 : decide ((l.length : Int) - (pos : Int) - 8 < (nn : Int)) = false := by simp; omega
          have hsum1 : IntKind.i64.wrap ((l.length : Int) - (pos : Int)) = (l.length : Int) - (pos : Int) := IntWalk.i64_in _ (by omega)
          have hsum2 : IntKind.i64.wrap ((l.length : Int) - (pos : Int) - 8) = (l.length : Int) - (pos : Int) - 8 := IntWalk.i64_in _ (by omega)
          have hsum3 : IntKind.i64.wrap ((pos : Int) + 8) = (pos : Int) + 8 := IntWalk.i64_in _ (by omega)
          have hsum4 : IntKind.i64.wrap ((pos : Int) + 8 + (nn : Int)) = (pos : Int) + 8 + (nn : Int) := IntWalk.i64_in _ (by omega)
          have hsum5 : IntKind.i64.wrap ((pos : Int) + 4) = (pos : Int) + 4 := IntWalk.i64_in _ (by omega)
          have r1 := slice_run2 A l.length c (pos + 8) (pos + 8 + nn) (by omega) (by omega) ((pos : Int) + 8) ((pos : Int) + 8 + (nn : Int)) (by simp) (by simp) nn (c - (pos + 8)) (by omega) rfl
          have r2 := slice_run1 A l.length c (pos + 4) (by omega) ((pos : Int) + 4) (by simp) (l.length - (pos + 4)) (c - (pos + 4)) rfl rfl
          have hB1' : Below w₀.heap.size w₀ w1 := hbe.trans (hB1.mono hnn)
          by_cases hq : crcN ((l.drop (pos + 8)).take nn) = wordL (l.drop (pos + 4))
          · have hb : ((crcN ((l.drop (pos + 8)).take nn) : Int) != (wordL (l.drop (pos + 4)) : Int)) = false := by rw [hq]; simp
            have Hq := Lib.hid hq
            clear hq
            gi_wp2_with fail
            refine wpIn_wide.2 ?_
            go_region_held3 (fun w' => w'.cell? ⟨B, 0, none⟩ = some (.slice A l.length c) ∧ Below w₀.heap.size w₀ w') (first | exact ⟨hc1, hB1'.drew⟩ | exact ⟨(hB2.cell (p := ⟨B, 0, none⟩) (Nat.lt_of_lt_of_le hbx.lt hB1.size)).trans hc1, hB1'.drew.trans (hB2.mono (Nat.le_trans hnn hB1.size))⟩ | go_keep | (refine ⟨?_, ?_⟩ <;> first | assumption | exact Below.drew (by assumption))) ((first | (go_at_call 17; refine (crc_any _ ((l.drop (pos + 8)).take nn) _ (by simp; omega) ((HS.out.below hB1'.drew).cut (pos + 8) nn (c - (pos + 8)) (by omega) rfl)).mono ?_; rintro e wx ⟨rfl, rfl⟩) | (go_at_call 44; refine (word_any _ (l.drop (pos + 4)) _ (by simp; omega) (by simp; omega) ((HS.out.below hB1'.drew).cut1 (pos + 4) (l.length - (pos + 4)) (c - (pos + 4)) (by omega) rfl rfl)).mono ?_; rintro e wy ⟨rfl, hB2⟩)))
            have hBy := hB1.drew.trans (hB2.mono hB1.size)
            have hsx := (HS.out.below (hbe.trans (hBy.mono hnn))).cut (pos + 8) nn (c - (pos + 8)) (by omega) rfl
            have hcy := (hBy.cell (p := ⟨B, 0, none⟩) hbx.lt).trans hcB
            have Hsx := Lib.hid hsx
            clear hsx
            clear hsum1 hsum2 hsum3 hsum4 hsum5 r2 hB2
            gi_wp2_with fail
            refine ⟨trivial, rfl, (callsIn_wide.2 (clone_any _ _ _ (by simp; omega) Hsx.out)).mono ?_⟩
            rintro e w4 ⟨v4, rfl, hown4, hB4⟩
            have hBz := hBy.trans (hB4.mono hBy.size)
            have hnb : nextB (l.drop pos) = true := by
              simp only [nextB, Bool.and_eq_true, decide_eq_true_eq, hsl, Hn.out, List.drop_drop]
              exact ⟨h8, hm, hn8, Hq.out⟩
            obtain ⟨hget, hleft'⟩ := hleft.out.some hnb
            have hx : nextX (l.drop pos) = (l.drop (pos + 8)).take nn := by rw [nextX, Hn.out, List.drop_drop]
            rw [Hn.out] at hget hleft'
            rw [hx] at hget
            have hkl : k < (recsAt l.length 0 l).length := (List.getElem?_eq_some_iff.1 hget).1
            have Hleft := Lib.hid hleft'
            have hbxz : Boxed w4 B 22 (.slice A l.length c) := (hBz.block B hbx.lt).trans hbx
            have hnz : w₀.heap.size ≤ w4.heap.size := Nat.le_trans hnn hBz.size
            obtain ⟨fn, tmps, assign, body, hy, hR⟩ := hY k (pos + 8 + nn, (l.drop (pos + 8)).take nn) #[.int .i64 ((pos + 8 + nn : Nat) : Int), v4] D (fun b => b = B) w4 hget
              ⟨v4, rfl, SBD.of_OB hown4 (fun b hb => by subst hb; exact Nat.lt_of_lt_of_le hbx.lt hBy.size)⟩ (hJ _ _ _ _ hJk (KeepOn.of_below hBz)) (fun b h => Nat.lt_of_lt_of_le (hDb b h) hBz.size) (fun b h => by subst h; exact ⟨hbxz.lt, hDB⟩)
            have hval : ((pos + 8 + nn : Nat) : Int) = (pos : Int) + (8 + (nn : Int)) := by omega
            rw [hval] at hy
            clear hval hnb hleft' hx hget hown4 hb r1 r0
            gi_wp2
            refine ⟨rfl, hR.mono ?_⟩
            clear hy hR
            rintro e W3 ⟨D3, hD3, hk3, (⟨rfl, hJ3⟩ | ⟨rfl, hJ3⟩)⟩
            · have hn3 : w₀.heap.size ≤ W3.heap.size := Nat.le_trans hnz hk3.size
              have hbx3 := boxed_keepOn hbxz hk3 (.inr rfl)
              have hDB3 : ¬ D3 B := fun h => (hD3 B h).2 rfl
              have hDb3 : ∀ b, D3 b → b < W3.heap.size := fun b h => (hD3 b h).1
              have hbe3 := (hbe.trans (hBz.mono hnn)).trans (hk3.below hnz)
              clear hD3
              gi_wp2
              go_roundw
              case rel => exact ⟨pos + 8 + nn, k + 1, D3, by rw [show ((pos + 8 + nn : Nat) : Int) = (pos : Int) + (8 + (nn : Int)) by omega], by omega, by omega, Hleft.out, hJ3, hDb3, hDB3, hbx3, hbe3, hn3⟩
              case measure => simp [intOf]; omega
            · gi_wp2
              refine bodyPost_ret (results_none rfl _ _ _) rfl ?_
              exact ⟨⟨_, rfl⟩, _, .inr ⟨_, hJ3⟩⟩
          · have hb : ((crcN ((l.drop (pos + 8)).take nn) : Int) != (wordL (l.drop (pos + 4)) : Int)) = true := by simpa using fun e => hq (by exact_mod_cast e)
            have Hq := Lib.hid hq
            clear hq
            gi_wp2_with fail
            refine wpIn_wide.2 ?_
            go_region_held3 (fun w' => w'.cell? ⟨B, 0, none⟩ = some (.slice A l.length c) ∧ Below w₀.heap.size w₀ w') (first | exact ⟨hc1, hB1'.drew⟩ | exact ⟨(hB2.cell (p := ⟨B, 0, none⟩) (Nat.lt_of_lt_of_le hbx.lt hB1.size)).trans hc1, hB1'.drew.trans (hB2.mono (Nat.le_trans hnn hB1.size))⟩ | go_keep | (refine ⟨?_, ?_⟩ <;> first | assumption | exact Below.drew (by assumption))) ((first | (go_at_call 17; refine (crc_any _ ((l.drop (pos + 8)).take nn) _ (by simp; omega) ((HS.out.below hB1'.drew).cut (pos + 8) nn (c - (pos + 8)) (by omega) rfl)).mono ?_; rintro e wx ⟨rfl, rfl⟩) | (go_at_call 44; refine (word_any _ (l.drop (pos + 4)) _ (by simp; omega) (by simp; omega) ((HS.out.below hB1'.drew).cut1 (pos + 4) (l.length - (pos + 4)) (c - (pos + 4)) (by omega) rfl rfl)).mono ?_; rintro e wy ⟨rfl, hB2⟩)))
            have hBy : Below wr.heap.size wr _ := hB1.drew.trans (hB2.mono hB1.size)
            clear hsum1 hsum2 hsum3 hsum4 hsum5 r1 r2
            gi_wp2
            refine bodyPost_ret (results_none rfl _ _ _) rfl ?_
            exact ⟨⟨_, rfl⟩, D, .inl (by rw [hleft.out.none (nextB_crc (by rw [Hn.out, List.drop_drop, List.drop_drop]; exact Hq.out)) hk]; exact hJ _ _ _ _ hJk (KeepOn.of_below hBy))⟩
        · have hg : decide ((1000000 : Int) < (nn : Int)) = false := by simp; omega
          have hg2 : decide ((l.length : Int) - (pos : Int) - 8 < (nn : Int)) = true := by simp; omega
          have hsum1 : IntKind.i64.wrap ((l.length : Int) - (pos : Int)) = (l.length : Int) - (pos : Int) := IntWalk.i64_in _ (by omega)
          have hsum2 : IntKind.i64.wrap ((l.length : Int) - (pos : Int) - 8) = (l.length : Int) - (pos : Int) - 8 := IntWalk.i64_in _ (by omega)
          gi_wp2_with fail
          refine wpIn_wide.2 ?_
          go_quiet (fail)
          clear hsum1 hsum2
          gi_wp2
          refine bodyPost_ret (results_none rfl _ _ _) rfl ?_
          exact ⟨⟨_, rfl⟩, D, .inl (by rw [hleft.out.none (nextB_long (by rw [Hn.out, hsl]; omega)) hk]; exact hJ _ _ _ _ hJk (KeepOn.of_below (below_drewN hB1 _)))⟩
      · have hg : decide ((1000000 : Int) < (nn : Int)) = true := by simp; omega
        gi_wp2_with fail
        refine wpIn_wide.2 ?_
        go_quiet (fail)
        gi_wp2
        refine bodyPost_ret (results_none rfl _ _ _) rfl ?_
        exact ⟨⟨_, rfl⟩, D, .inl (by rw [hleft.out.none (nextB_long (by rw [Hn.out, hsl]; omega)) hk]; exact hJ _ _ _ _ hJk (KeepOn.of_below (below_drewN hB1 _)))⟩
    · have hnb : nextB (l.drop pos) = false := by simp [nextB]; omega
      have hkk := hleft.out.none hnb hk
      gi_wp2
      go_end0
      exact ⟨⟨_, rfl⟩, D, .inl (by rw [hkk]; exact hJk)⟩
end Go.Proofs.Ytlgmocmekmppeaa

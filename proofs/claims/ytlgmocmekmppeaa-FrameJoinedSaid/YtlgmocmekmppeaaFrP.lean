/- The walk of FrameJoined: the Go text returns true, and nothing that was there is written. -/
import Derived.RangeFuncNested
import Derived.RangeFuncBound
import Derived.RangeFuncCalls
import Derived.RangeFuncLeaves
import Derived.Shelf.Abstract
import Derived.Shelf.RegionOpen
import Derived.WalkKit
import Derived.OwnWalkIn
import Derived.TacticsInMore
import Derived.LoopNIn
import Derived.LoopIn
import Derived.Outline
import Derived.Lib.Hide
import Derived.Lib.SliceRun
import Derived.IntWalk
import Derived.WalkLawsBesides
import Derived.WalkSpells
import Derived.Laws.BitsAllLaws
import Derived.Lib.ConvBytes
import Derived.Maps.AppendAt
import Derived.Lib.AppendStr
import Derived.Lib.SlBytesConst
import Derived.Laws.AppendOwnNone
import Derived.Laws.OwnMore
import Derived.Laws.BytesArg
import Derived.Deep.RegionHeld3
import Derived.BigQuiet
import Derived.Deep.RegionLaw
import Derived.Deep.QuietTactic
import Derived.Test.YtlgmocmekmppeaaProg
import Derived.Deep.Slices
import Derived.Test.YtlgmocmekmppeaaFrO
set_option linter.unusedVariables false
set_option linter.unusedSimpArgs false
namespace Go.Proofs.Ytlgmocmekmppeaa
open Go Go.RowKit Go.Shelf

/-- A SLICE OF SLICES OF THE CALL's OWN; what it holds lay below base. -/
def OS (W : World) (base : Nat) (v : Value) (ls : List (List UInt8)) : Prop :=
  ∃ vs, W.ownsRow base 22 1 v ls.length vs ∧ vs.length = ls.length ∧ ∀ i, i < ls.length → ∃ u, vs[i]? = some u ∧ SBL base W u (ls[i]?.getD [])
theorem OS.nil (W : World) (base : Nat) : OS W base (.slice none 0 0) [] := ⟨[], World.ownsRow_nil _ _ _ _, rfl, fun i h => by simp at h⟩
theorem OS.reads {W : World} {base : Nat} {v : Value} {ls : List (List UInt8)} (h : OS W base v ls) : SS W v ls := by
  obtain ⟨vs, hr, hl, hall⟩ := h
  exact SS_of_row (n₀ := base) (D := fun _ => False) hr ⟨hl, fun i hi => by
    obtain ⟨u, hu, hs⟩ := hall i hi
    exact ⟨u, hu, hs.mono (fun b _ h => (h trivial).elim)⟩⟩

theorem runS_append {w0 w : World} (ty : TypeId) (v xv : Value) (ls ms : List (List UInt8)) (hown : OS w w0.heap.size v ls) (hm : SS w0 xv ms) (hB : Below w0.heap.size w0 w) (hlen : ls.length + ms.length ≤ 1000000) :
    ∃ v' w', (Builtin.append_ #[35, 35] ty #[v, xv]).run Try.prog w = .ok v' w' ∧ OS w' w0.heap.size v' (ls ++ ms) ∧ Below w0.heap.size w w' := by
  obtain ⟨i0, hi, hz0, hz1, hz2⟩ := info_parts info22
  obtain ⟨vs, hrow, hvl, hvs⟩ := hown
  rcases hm with ⟨rfl, rfl⟩ | ⟨ad, c, rfl, h1, h3⟩
  · exact ⟨v, w, run_append_owned_none (P := Try.prog) (w := w) w0.heap.size 35 ty 22 i0 1 Try.underlying35 hi v ls.length vs hrow, ⟨vs, by simpa using hrow, by simpa using hvl, by simpa using hvs⟩, Below.refl _ _⟩
  · obtain ⟨f, hf⟩ := Deep.choose_lt (α := Value) (n := ms.length) (p := fun i u => w0.cell? (ad.add i) = some u ∧ SB w0 u (ms[i]?.getD [])) (fun i hi => by
      obtain ⟨g, o, rfl, hc⟩ := h3 (by omega)
      obtain ⟨u, hu, hs⟩ := hc i hi
      refine ⟨u, ?_, hs⟩
      have hplain : (⟨g, o, none⟩ : Addr).add i = ⟨g, o + i, none⟩ := by unfold Addr.add; split <;> simp_all
      rw [hplain]; exact hu)
    obtain ⟨v', w', hr, hown', hgrow, _⟩ := run_append_own (P := Try.prog) w w0.heap.size 35 ty 22 i0 (.slice none 0 0) 1 24 Try.underlying35 hi hz0 hz1 hz2 rfl (by decide) v ls.length vs hrow ad ms.length c ((List.range ms.length).map f) (by simp) (by
      intro j u hj
      have hj' : j < ms.length := by have := (List.getElem?_eq_some_iff.1 hj).1; simpa using this
      simp [hj'] at hj
      subst hj
      have h := (hf j hj').1
      exact (hB.cell (World.block_lt_of_cell? _ _ h)).trans h) (by
      intro u hu
      obtain ⟨j, hj, rfl⟩ := List.mem_map.1 hu
      have hs := (hf j (by simpa using hj)).2
      obtain ⟨A, c', e, _⟩ := hs.form
      rw [e]; rfl) (by unfold maxLen; omega) (by omega) hB.size
    have hBw : Below w0.heap.size w w' := (Below.refl _ w).grown hgrow hB.size (fun k hk => (hrow.lt k hk).1)
    refine ⟨v', w', hr, ⟨vs ++ (List.range ms.length).map f, ?_, by simp [hvl], fun i hi => ?_⟩, hBw⟩
    · rw [List.length_append]; exact hown'
    · by_cases h : i < ls.length
      · obtain ⟨u, hu, hs⟩ := hvs i h
        exact ⟨u, by rw [List.getElem?_append_left (by omega)]; exact hu, by rw [List.getElem?_append_left h]; exact hs.below hBw⟩
      · have hi' : i - ls.length < ms.length := by simp at hi; omega
        refine ⟨f (i - ls.length), ?_, ?_⟩
        · rw [List.getElem?_append_right (by omega), hvl]; simp [hi']
        · rw [List.getElem?_append_right (by omega)]
          exact (SBL.of_SB (hf _ hi').2).below (hB.trans hBw)

theorem wpS_append {w0 w : World} {ops : Array Oper} {rest : List Oper} {o : Oper} {a : Act} {Q : Exit → Act → World → Prop} (hw : Region.wanted o (yielded ops a.tmps) = true) (s x : Operand)
    (ho : o.op = .call { callee := .builtin .append, args := #[s, x], argTypes := #[35, 35] })
    (v xv : Value) (ls ms : List (List UInt8)) (hs : a.eval s = v) (hown : OS w w0.heap.size v ls) (hx : a.eval x = xv) (hm : SS w0 xv ms) (hB : Below w0.heap.size w0 w) (hlen : ls.length + ms.length ≤ 1000000)
    (h : ∀ v' w', OS w' w0.heap.size v' (ls ++ ms) → Below w0.heap.size w w' → wpList Try.prog ops Q rest (a.put o.dst v') w') : wpList Try.prog ops Q (o :: rest) a w := by
  refine wpList_step fun K hK => ?_
  rw [if_pos hw]
  obtain ⟨v', w', hrun, h1, h2⟩ := runS_append o.type v xv ls ms hown hm hB hlen
  unfold Oper.wp
  simp [execOp, ho, resolve, invoke, builtin, hs, hx, hrun, Result.andThen]
  exact hK _ _ (h v' w' h1 h2)

set_option maxRecDepth 100000 in
set_option maxHeartbeats 400000 in
theorem joined_many1 (v v' : Value) (a b : List (List UInt8)) (w : World) (h : SS w v a) (h' : SS w v' b) (hf : fewB a = false) :
    Calls Try.prog 9 #[v, v'] w fun e w' => e = .returned (.bool true) ∧ Below w.heap.size w w' := by
  obtain ⟨A, c, hv, -, -⟩ := h.form
  obtain ⟨A', c', hv', -, -⟩ := h'.form
  subst hv hv'
  go_enter Try.func9, Try.ntmps9
  go_wp2_with fail
  refine (awake_any w).mono ?_
  rintro e w1 ⟨rfl, hB1⟩
  go_wp2_with fail
  refine (few_any _ a _ (h.below hB1)).mono ?_
  rintro e w2 ⟨rfl, rfl⟩
  rw [hf]
  go_wp2
  go_ret
  exact ⟨rfl, hB1⟩

set_option maxRecDepth 100000 in
set_option maxHeartbeats 400000 in
theorem joined_many2 (v v' : Value) (a b : List (List UInt8)) (w : World) (h : SS w v a) (h' : SS w v' b) (hf : fewB a = true) (hf' : fewB b = false) :
    Calls Try.prog 9 #[v, v'] w fun e w' => e = .returned (.bool true) ∧ Below w.heap.size w w' := by
  obtain ⟨A, c, hv, -, -⟩ := h.form
  obtain ⟨A', c', hv', -, -⟩ := h'.form
  subst hv hv'
  go_enter Try.func9, Try.ntmps9
  go_wp2_with fail
  refine (awake_any w).mono ?_
  rintro e w1 ⟨rfl, hB1⟩
  go_wp2_with fail
  refine (few_any _ a _ (h.below hB1)).mono ?_
  rintro e w2 ⟨rfl, rfl⟩
  rw [hf]
  go_wp2_with fail
  refine (few_any _ b _ (h'.below hB1)).mono ?_
  rintro e w2 ⟨rfl, rfl⟩
  rw [hf']
  go_wp2
  go_ret
  exact ⟨rfl, hB1⟩

set_option maxRecDepth 100000 in
set_option maxHeartbeats 1000000 in
theorem joined_few (v v' : Value) (a b : List (List UInt8)) (w : World) (h : SS w v a) (h' : SS w v' b) (hf : fewB a = true) (hf' : fewB b = true) :
    Calls Try.prog 9 #[v, v'] w fun e w' => e = .returned (.bool true) ∧ Below w.heap.size w w' := by
  obtain ⟨A, c, hv, -, -⟩ := h.form
  obtain ⟨A', c', hv', -, -⟩ := h'.form
  subst hv hv'
  obtain ⟨hl50, hl2⟩ := few_all hf
  obtain ⟨hm50, hm2⟩ := few_all hf'
  have hlen := recsB_len a hl2
  have hlen' := recsB_len b hm2
  obtain ⟨r1, r2⟩ := all_write (a ++ b) [] (fun l hl => (List.mem_append.1 hl).elim (fun hl => by have := hl2 l hl; omega) (fun hl => by have := hm2 l hl; omega)) nextB_nil
  rw [List.append_nil, recsB_append] at r1 r2
  rw [List.length_append] at r2
  have R1 := Lib.hid r1
  have R2 := Lib.hid r2
  clear r1 r2
  have Hl2 := Lib.hid hl2
  have Hm2 := Lib.hid hm2
  clear hl2 hm2
  have H := Lib.hid h
  have H' := Lib.hid h'
  clear h h'
  go_enter Try.func9, Try.ntmps9
  go_wp2_with fail
  refine (awake_any w).mono ?_
  rintro e w1 ⟨rfl, hB1⟩
  go_wp2_with fail
  refine (few_any _ a _ (H.out.below hB1)).mono ?_
  rintro e w2 ⟨rfl, rfl⟩
  rw [hf]
  go_wp2_with fail
  refine (few_any _ b _ (H'.out.below hB1)).mono ?_
  rintro e w2 ⟨rfl, rfl⟩
  rw [hf']
  go_wp2_with fail
  refine (write_any _ a _ hf (H.out.below hB1)).mono ?_
  rintro e w2 ⟨v1, rfl, ho1, hB2⟩
  have hB2' := hB1.trans (hB2.mono hB1.size)
  go_wp2_with fail
  refine (write_any _ b _ hf' (H'.out.below hB2')).mono ?_
  rintro e w3 ⟨v2, rfl, ho2, hB3⟩
  have hB3' := hB2'.trans (hB3.mono hB2'.size)
  have ho1' := ho1.below hB3
  obtain ⟨A1, c1, e1, -, -, -⟩ := ho1'.reads.form
  obtain ⟨A2, c2, e2, -, -, -⟩ := ho2.reads.form
  subst e1 e2
  go_wp2_with (refine wpB_append rfl _ _ rfl w3.heap.size (.slice none 0 0) _ [] (recsB a) rfl (World.ownsRow_nil _ _ _ _) rfl ho1'.reads (by simp; omega) (Nat.le_refl _) ?_)
  intro v4 w4 hown4 _ hB4
  have hB4' := hB3'.trans (hB4.mono hB3'.size)
  go_wp2_with (at_builtin; refine wpB_append rfl _ _ rfl w3.heap.size _ _ (recsB a) (recsB b) rfl hown4 rfl (ho2.reads.below hB4) (by omega) hB4.size ?_)
  intro v5 w5 hown5 _ hB5
  have hB5' := hB4'.trans (hB5.mono hB3'.size)
  go_wp2_with fail
  refine (all_any _ (recsB a ++ recsB b) _ (by simp; omega) hown5.reads).mono ?_
  rintro e w6 ⟨v6, rfl, hx6, hB6⟩
  rw [R2.out]
  rw [R1.out] at hx6
  have hB6' := hB5'.trans (hB6.mono hB5'.size)
  have hx6' := Lib.hid hx6
  clear hx6
  go_wp2_with (refine wpS_append (w0 := w6) rfl _ _ rfl (.slice none 0 0) _ [] a rfl (OS.nil _ _) rfl (H.out.below hB6') (Below.refl _ _) (by simp; omega) ?_)
  intro v7 w7 hos7 hB7
  go_wp2_with (refine wpS_append (w0 := w6) rfl _ _ rfl _ _ a b rfl hos7 rfl (H'.out.below hB6') hB7 (by omega) ?_)
  intro v8 w8 hos8 hB8
  have hB68 := hB7.trans hB8
  have hB8' := hB6'.trans (hB68.mono hB6'.size)
  have hx8 := Lib.hid (hx6'.out.below hB68)
  have hy8 := Lib.hid hos8.reads
  clear hos7 hos8
  go_wp2_with fail
  refine (same_any _ _ _ _ _ hx8.out hy8.out).mono ?_
  rintro e w9 ⟨rfl, hB9⟩
  have hd : decide (a ++ b = a ++ b) = true := by simp
  rw [hd]
  go_wp2
  go_ret
  exact ⟨rfl, hB8'.trans (hB9.mono hB8'.size)⟩

theorem frameJoined_walk (v : Value) (a : List (List UInt8)) (v' : Value) (b : List (List UInt8)) (w : World) (h : SS w v a) (h' : SS w v' b) :
    Calls Try.prog 9 #[v, v'] w fun e w' => e = .returned (.bool true) ∧ Below w.heap.size w w' := by
  cases hf : fewB a with
  | false => exact joined_many1 v v' a b w h h' hf
  | true =>
    cases hf' : fewB b with
    | false => exact joined_many2 v v' a b w h h' hf hf'
    | true => exact joined_few v v' a b w h h' hf hf'
end Go.Proofs.Ytlgmocmekmppeaa

/- clean, and where its list lies; append of a list to the heap's row. -/
import Derived.RangeFuncNested
import Derived.RangeFuncBound
import Derived.RangeFuncCalls
import Derived.RangeFuncLeaves
import Derived.Shelf.Abstract
import Derived.Shelf.RegionOpen
import Derived.WalkKit
import Derived.OwnWalkIn
import Derived.TacticsInMore
import Derived.LoopNIn
import Derived.LoopIn
import Derived.Outline
import Derived.Lib.Hide
import Derived.Lib.SliceRun
import Derived.IntWalk
import Derived.WalkLawsBesides
import Derived.WalkSpells
import Derived.Laws.BitsAllLaws
import Derived.Lib.ConvBytes
import Derived.Maps.AppendAt
import Derived.Lib.AppendStr
import Derived.Lib.SlBytesConst
import Derived.Laws.AppendOwnNone
import Derived.Laws.OwnMore
import Derived.Laws.BytesArg
import Derived.Deep.RegionHeld3
import Derived.BigQuiet
import Derived.Deep.RegionLaw
import Derived.Deep.QuietTactic
import Derived.Lib.OthersKept
import Derived.Test.YtlgodokgebjjaaaProg
import Derived.Deep.DeepFit
import Derived.Test.YtlgodokgebjjaaaPoK
set_option linter.unusedVariables false
set_option linter.unusedSimpArgs false
namespace Go.Proofs.Ytlgodokgebjjaaa
open Go Go.RowKit Go.Shelf

set_option maxRecDepth 100000 in
set_option maxHeartbeats 2000000 in
/-- **clean**, and where its list lies -/
theorem cleanP_any (v : Value) (l : List Int) (w : World) (hv : NS w v l) (hlen : l.length ≤ 1000000) :
    Calls Try.prog 92 #[v] w fun e w' => ∃ u, e = .returned u ∧ NS w' u (srtI l) ∧ (u = v ∨ ON w' w.heap.size u (srtI l)) ∧ Below w.heap.size w w' := by
  obtain ⟨B, hB⟩ : ∃ B, w.heap.size = B := ⟨_, rfl⟩
  have H1 := Lib.hid (check_any v l w hv hlen)
  have HV : Hid (∀ w', Below B w w' → NS w' v l) := fun w' hb => hv.below (hB ▸ hb)
  have HL := Lib.hid hlen
  rw [hB] at H1 ⊢
  have HB0 := Lib.hid hB
  clear hv hlen hB
  go_enter Try.func92, Try.ntmps92
  go_wp2_with fail
  refine H1.out.mono ?_
  rintro e w1 ⟨rfl, hb1⟩
  have hv1 := HV.out w1 hb1
  have hn1 : B ≤ w1.heap.size := by rw [← HB0.out]; exact hb1.size
  have HB1 := Lib.hid hb1
  have HV1 := Lib.hid hv1
  have H2 := Lib.hid (of_any v l w1 hv1 HL.out)
  clear hb1 hv1
  cases hr : riseB l
  · clear hr
    go_wp2_with fail
    refine H2.out.mono ?_
    rintro e w2 ⟨u, rfl, ho, hb2⟩
    have HB2 := Lib.hid (HB1.out.trans (hb2.mono hn1))
    have HN := Lib.hid ho.reads
    have HO := Lib.hid (ho.mono hn1)
    clear ho hb2
    go_wp2
    go_ret
    exact ⟨_, rfl, HN.out, .inr HO.out, HB2.out⟩
  · have HR := Lib.hid (srtI_clean l hr)
    clear hr
    go_wp2
    go_ret
    exact ⟨_, rfl, by rw [HR.out]; exact HV1.out, .inl rfl, HB1.out⟩
theorem info34 : (Try.prog.info? 34).map (fun i => (i.zero, i.size, i.bytes)) = some (some (.slice none 0 0), 1, 24) := by kernel_rfl
theorem under110 : Try.prog.underlying 110 = some (.slice 34) := by kernel_rfl
/-- append(f, u) -/
theorem runF_append {w : World} (ty : TypeId) (base : Nat) (v : Value) (vs : List Value) (A : Option Addr) (n c : Nat) (b : Nat) (hown : FR w base v vs) (hall : ∀ x ∈ vs, x.oneCell' = true) (hb : w.cell? ⟨b, 0, none⟩ = some (.slice A n c)) (hlen : vs.length ≤ 100000) (hbase : base ≤ w.heap.size) :
    ∃ A' n' c' w', (Builtin.append_ #[110, 110] ty #[v, .slice (some ⟨b, 0, none⟩) 1 1]).run Try.prog w = .ok (.slice A' n' c') w' ∧ FR w' base (.slice A' n' c') (vs ++ [.slice A n c]) ∧ w.grownBy w' v.ownBlock ∧ (∀ r, (Value.slice A' n' c').ownBlock = some r → v.ownBlock = some r ∨ r = w.heap.size) := by
  obtain ⟨i0, hi, hz0, hz1, hz2⟩ := info_parts info34
  obtain ⟨g, cap, w', hrun, r1, r2, r3, _⟩ := run_append_lies (P := Try.prog) w 110 ty base 34 i0 (.slice none 0 0) 1 24 under110 hi hz0 hz1 hz2 rfl (by decide) v vs.length vs hown ⟨b, 0, none⟩ 1 1 [.slice A n c] rfl (by
      intro j u hj
      have hj0 : j = 0 := by
        have := (List.getElem?_eq_some_iff.1 hj).1
        simpa using this
      subst hj0
      simp at hj
      subst hj
      simpa [Addr.add] using hb) (by simp [Value.oneCell']) (by decide) (by unfold maxLen; omega) (by omega) hbase w.heap.size rfl
  refine ⟨_, _, _, w', hrun, ?_, r2, fun r hr => ?_⟩
  · unfold FR
    rw [List.length_append]
    exact r1
  · have : g = r := by simpa [Value.ownBlock] using hr
    subst this
    exact r3
theorem stepF_append {w : World} {ops : Array Oper} {o : Oper} {a : Act} {K : Act → World → Prop} {Q : Exit → Act → World → Prop} {E : Prop} (hgd : o.guard = none) (s x : Operand)
    (ho : o.op = .call { callee := .builtin .append, args := #[s, x], argTypes := #[110, 110] })
    (base : Nat) (v : Value) (vs : List Value) (A : Option Addr) (n c b : Nat) (hs : a.eval s = v) (hx : a.eval x = .slice (some ⟨b, 0, none⟩) 1 1) (hown : FR w base v vs) (hall : ∀ x ∈ vs, x.oneCell' = true) (hb : w.cell? ⟨b, 0, none⟩ = some (.slice A n c)) (hlen : vs.length ≤ 100000) (hbase : base ≤ w.heap.size)
    (h : ∀ A' n' c' w', FR w' base (.slice A' n' c') (vs ++ [.slice A n c]) → w.grownBy w' v.ownBlock → (∀ r, (Value.slice A' n' c').ownBlock = some r → v.ownBlock = some r ∨ r = w.heap.size) → K (a.put o.dst (.slice A' n' c')) w') : if Region.wanted o (yielded ops a.tmps) = true then Oper.wp Try.prog o a w K Q else E := by
  have hw : Region.wanted o (yielded ops a.tmps) = true := by simp [Region.wanted, hgd]
  rw [if_pos hw]
  obtain ⟨A', n', c', w', hrun, h1, h2, h3⟩ := runF_append o.type base v vs A n c b hown hall hb hlen hbase
  unfold Oper.wp
  simp [execOp, ho, resolve, invoke, builtin, hs, hx, hrun, Result.andThen]
  exact h A' n' c' w' h1 h2 h3
/-- the new list's block beside the old ones -/
def KK.more (K : KK) (n₀ : Nat) (u : Value) : KK where
  all b := K.all b ∨ (n₀ ≤ b ∧ ∃ o n c, u = .slice (some ⟨b, o, none⟩) n c)
  el b := K.el b ∨ (n₀ ≤ b ∧ ∃ o n c, u = .slice (some ⟨b, o, none⟩) n c)
  sub b h := h.imp (K.sub b) id
theorem HF_push {wr w2 w3 w4 : World} {n₀ B : Nat} {K : KK} {v v' u : Value} {es : List El} {q : List Int} (hbx : Boxed wr B 110 v) (hrow : FR wr n₀ v (es.map (·.1))) (hE : ∀ e ∈ es, ND n₀ K.el wr e.1 e.2) (hvK : ∀ r, v.ownBlock = some r → ¬ K r) (hBK : ¬ K B) (hKs : ∀ b, K b → b < wr.heap.size) (hB : n₀ ≤ B)
    (hb2 : Below wr.heap.size wr w2) (hu : NS w2 u q) (hq : q ≠ []) (hpl : ∀ g o n c, u = .slice (some ⟨g, o, none⟩) n c → g < n₀ ∨ wr.heap.size ≤ g)
    (hb3 : Below w2.heap.size w2 w3) (hrow4 : FR w4 n₀ v' (es.map (·.1) ++ [u])) (hg4 : w3.grownBy w4 v.ownBlock) (hl4 : ∀ r, v'.ownBlock = some r → v.ownBlock = some r ∨ r = w3.heap.size) :
    HF (w4.setCell ⟨B, 0, none⟩ v') n₀ B (K.more n₀ u) (es.map (·.2) ++ [q]) ∧ KeepOn n₀ K wr (w4.setCell ⟨B, 0, none⟩ v') := by
  have hs2 : wr.heap.size ≤ w2.heap.size := hb2.size
  have hs3 : w2.heap.size ≤ w3.heap.size := hb3.size
  have hBl := hbx.lt
  have hrl : ∀ r, v.ownBlock = some r → n₀ ≤ r ∧ r < wr.heap.size := fun r h => World.ownsRow.lt hrow r h
  have hnew : ∀ r, r < wr.heap.size → n₀ ≤ r → ¬ K r → ¬ (K.more n₀ u).all r := by
    rintro r h1 h2 h3 (h | ⟨-, o, n, c, e⟩)
    · exact h3 h
    · rcases hpl _ _ _ _ e with h | h <;> omega
  have hb13 : Below wr.heap.size wr w3 := hb2.trans (hb3.mono hs2)
  have hk34 : KeepOn n₀ (K.more n₀ u).all w3 w4 := KeepOn.of_grown hg4 (fun k e => ⟨(hrl k e).1, hnew k (hrl k e).2 (hrl k e).1 (hvK k e)⟩)
  have hBv : ∀ r, v.ownBlock = some r → B ≠ r := fun r h e => hbx.not_row (by decide) hrow (by rw [h, e])
  have hbx3 : Boxed w3 B 110 v := (hb13.block B hBl).trans hbx
  have hbx4 : Boxed w4 B 110 v := Boxed.kept hbx3 hg4 (by intro e; exact hBv B e.symm rfl)
  have hBm : ¬ (K.more n₀ u).all B := hnew B hBl hB hBK
  have hk45 : KeepOn n₀ (K.more n₀ u).all w4 (w4.setCell ⟨B, 0, none⟩ v') := KeepOn.setCell w4 B v' hB hBm
  have hk35 := hk34.trans hk45
  have hk15 : KeepOn n₀ (K.more n₀ u).all wr (w4.setCell ⟨B, 0, none⟩ v') := (KeepOn.of_below hb13).trans hk35
  have hk25 : KeepOn n₀ (K.more n₀ u).all w2 (w4.setCell ⟨B, 0, none⟩ v') := (KeepOn.of_below hb3).trans hk35
  have hsz : w3.heap.size ≤ (w4.setCell ⟨B, 0, none⟩ v').heap.size := hk35.size
  refine ⟨⟨v', hbx4.set v', ⟨es ++ [(u, q)], ?_, by simp, ?_⟩, ?_, hBm, ?_⟩, ⟨hk15.os, hk15.tape, hk15.output, hk15.size, fun k hk h => hk15.block k hk (h.imp id .inl)⟩⟩
  · rw [List.map_append]
    exact World.ownsRow.kept (row := some B) hrow4 (grownBy_setCell' w4 B v') (.inr (fun e => hbx4.not_row (by decide) hrow4 e.symm))
  · intro e he
    rcases List.mem_append.1 he with he | he
    · exact ((hE e he).mono (fun b h => Or.inl h)).keep hk15 (K.more n₀ u).sub
    · obtain rfl : e = (u, q) := by simpa using he
      have : ND n₀ (K.more n₀ u).el w2 u q := ⟨hu, fun g o n c e hne => by
        rcases Nat.lt_or_ge g n₀ with h | h
        · exact .inl h
        · exact .inr (.inr ⟨h, o, n, c, e⟩)⟩
      exact this.keep hk25 (K.more n₀ u).sub
  · intro r hr
    rcases hl4 r hr with h | rfl
    · exact hnew r (hrl r h).2 (hrl r h).1 (hvK r h)
    · rintro (h | ⟨-, o, n, c, e⟩)
      · have := hKs _ h; omega
      · obtain ⟨g, o', c', e', h0, -, -, hc⟩ := hu.head hq
        rw [e] at e'
        cases e'
        have : w3.heap.size < w2.heap.size := World.block_lt_of_cell? w2 _ hc
        omega
  · rintro b (h | ⟨-, o, n, c, e⟩)
    · have := hKs _ h; omega
    · obtain ⟨g, o', c', e', h0, -, -, hc⟩ := hu.head hq
      rw [e] at e'
      cases e'
      have : b < w2.heap.size := World.block_lt_of_cell? w2 _ hc
      omega
end Go.Proofs.Ytlgodokgebjjaaa
